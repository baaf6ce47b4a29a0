/- The library's slices.BinarySearch and slices.Insert at texts: the shelf's contracts laid at this program. -/
import Derived.Test.YtmjficimnkbonaaGrp
import Derived.Test.YtmjficimnkbonaaOwnSet
import Derived.Test.YtmjficimnkbonaaGrpTo
import Derived.Test.YtmjficimnkbonaaLeave
import Derived.Shelf.Spec.SlicesInsert
import Derived.Shelf.Spec.SearchS
namespace Go.Proofs.Ytmjficimnkbonaa
open Go.RowKit

def Lays2_n22_ren : Go.Shelf.Ren := ⟨fun | 17 => 71 | 22 => 47 | 29 => 66 | 30 => 67 | 36 => 70 | n => n, fun | 0 => 0 | 3 => 3 | 4 => 4 | 9 => 9 | 24 => 23 | n => n, fun | n => n⟩
theorem Lays2_n22 : Go.Proofs.Lays2.n22 Try.prog Lays2_n22_ren := {
  mixed := by kernel_rfl
  f17 := Try.func71.trans (congrArg some (by kernel_rfl))
  f22 := Try.func47.trans (congrArg some (by kernel_rfl))
  f29 := Try.func66.trans (congrArg some (by kernel_rfl))
  f30 := Try.func67.trans (congrArg some (by kernel_rfl))
  f36 := Try.func70.trans (congrArg some (by kernel_rfl))
  t0 := Try.underlying0
  a0 := Try.isAgg0
  z0 := Try.sizeOf0
  v0 := Try.zeroValue0
  t3 := Try.underlying3
  a3 := Try.isAgg3
  z3 := Try.sizeOf3
  v3 := Try.zeroValue3
  t4 := Try.underlying4
  a4 := Try.isAgg4
  z4 := Try.sizeOf4
  v4 := Try.zeroValue4
  t9 := Try.underlying9
  a9 := Try.isAgg9
  z9 := Try.sizeOf9
  v9 := Try.zeroValue9
  t24 := Try.underlying23
  a24 := Try.isAgg23
  z24 := Try.sizeOf23
  v24 := Try.zeroValue23
  i9 := by kernel_rfl }
def Lays2_n26_ren : Go.Shelf.Ren := ⟨fun | 26 => 46 | 33 => 64 | 34 => 65 | 38 => 69 | n => n, fun | 0 => 0 | 3 => 3 | 4 => 4 | 9 => 9 | 24 => 23 | 40 => 76 | n => n, fun | n => n⟩
theorem Lays2_n26 : Go.Proofs.Lays2.n26 Try.prog Lays2_n26_ren := {
  mixed := by kernel_rfl
  f26 := Try.func46.trans (congrArg some (by kernel_rfl))
  f33 := Try.func64.trans (congrArg some (by kernel_rfl))
  f34 := Try.func65.trans (congrArg some (by kernel_rfl))
  f38 := Try.func69.trans (congrArg some (by kernel_rfl))
  t0 := Try.underlying0
  a0 := Try.isAgg0
  z0 := Try.sizeOf0
  v0 := Try.zeroValue0
  t3 := Try.underlying3
  a3 := Try.isAgg3
  z3 := Try.sizeOf3
  v3 := Try.zeroValue3
  t4 := Try.underlying4
  a4 := Try.isAgg4
  z4 := Try.sizeOf4
  v4 := Try.zeroValue4
  t9 := Try.underlying9
  a9 := Try.isAgg9
  z9 := Try.sizeOf9
  v9 := Try.zeroValue9
  t24 := Try.underlying23
  a24 := Try.isAgg23
  z24 := Try.sizeOf23
  v24 := Try.zeroValue23
  t40 := Try.underlying76
  a40 := Try.isAgg76
  z40 := Try.sizeOf76
  v40 := Try.zeroValue76 }

/-- Where a text belongs among ascending ones. -/
def posOf (x : ByteArray) : List ByteArray → Nat
  | [] => 0
  | m :: r => if sl m x = true then posOf x r + 1 else 0
theorem pos_le (x : ByteArray) (ms : List ByteArray) : posOf x ms ≤ ms.length := by
  induction ms with
  | nil => exact Nat.le_refl _
  | cons m r ih =>
    rw [posOf]
    split
    · simpa using ih
    · exact Nat.zero_le _
theorem pos_lt (x : ByteArray) (ms : List ByteArray) {t : Nat} (h : t < posOf x ms) (ht : t < ms.length) : sl ms[t] x = true := by
  induction ms generalizing t with
  | nil => simp at ht
  | cons m r ih =>
    rw [posOf] at h
    split at h
    · rename_i hm
      cases t with
      | zero => exact hm
      | succ t => exact ih (by omega) (by simpa using ht)
    · omega
theorem pos_at (x : ByteArray) (ms : List ByteArray) (ht : posOf x ms < ms.length) : sl (ms[posOf x ms]) x = false := by
  induction ms with
  | nil => simp at ht
  | cons m r ih =>
    by_cases hm : sl m x = true
    · have e : posOf x (m :: r) = posOf x r + 1 := by rw [posOf, if_pos hm]
      simp only [e, List.getElem_cons_succ]
      exact ih (by rw [e] at ht; simpa using ht)
    · have e : posOf x (m :: r) = 0 := by rw [posOf, if_neg hm]
      simp only [e, List.getElem_cons_zero]
      simpa using hm
theorem pos_ge {x : ByteArray} {ms : List ByteArray} (h : ascS ms) {t : Nat} (hp : posOf x ms ≤ t) (ht : t < ms.length) : sl ms[t] x = false := by
  have h1 := pos_at x ms (by omega)
  rcases (by omega : posOf x ms = t ∨ posOf x ms < t) with e | e
  · subst e; exact h1
  · rw [Bool.eq_false_iff]
    intro h2
    have := sl_trans (ascS_at h e ht) h2
    rw [h1] at this
    cases this
/-- A text is there if and only if it stands at its place. -/
theorem has_pos {x : ByteArray} {ms : List ByteArray} (h : ascS ms) : hasB x ms = decide (posOf x ms < ms.length ∧ ms.getD (posOf x ms) x = x) := by
  rw [Bool.eq_iff_iff, hasB_iff, decide_eq_true_eq]
  constructor
  · intro hx
    obtain ⟨j, hj, rfl⟩ := List.mem_iff_getElem.1 hx
    have hpj : posOf ms[j] ms ≤ j := by
      rcases Nat.lt_or_ge j (posOf ms[j] ms) with q | q
      · have := pos_lt _ ms q hj
        rw [sl_irrefl] at this
        cases this
      · exact q
    have hpl : posOf ms[j] ms < ms.length := by omega
    refine ⟨hpl, ?_⟩
    rw [List.getD_eq_getElem?_getD, List.getElem?_eq_getElem hpl, Option.getD_some]
    rcases (by omega : posOf ms[j] ms = j ∨ posOf ms[j] ms < j) with e | e
    · simp only [e]
    · have h1 := pos_at ms[j] ms hpl
      have h2 := ascS_at h e hj
      rw [h2] at h1
      cases h1
  · rintro ⟨h1, h2⟩
    rw [List.getD_eq_getElem?_getD, List.getElem?_eq_getElem h1, Option.getD_some] at h2
    have := List.getElem_mem h1
    rwa [h2] at this
/-- The text laid at its place. -/
def putIn (x : ByteArray) (ms : List ByteArray) : List ByteArray := ms.take (posOf x ms) ++ x :: ms.drop (posOf x ms)
theorem putIn_len (x : ByteArray) (ms : List ByteArray) : (putIn x ms).length = ms.length + 1 := by
  have := pos_le x ms
  simp [putIn]
  omega
theorem putIn_mem {x y : ByteArray} {ms : List ByteArray} (h : y ∈ putIn x ms) : y = x ∨ y ∈ ms := by
  rcases List.mem_append.1 h with h | h
  · exact .inr (List.mem_of_mem_take h)
  · rcases List.mem_cons.1 h with h | h
    · exact .inl h
    · exact .inr (List.mem_of_mem_drop h)
theorem putIn_rest {x : ByteArray} {ms : List ByteArray} (h : hasB x ms = false) : rest x (putIn x ms) = ms := by
  have hx : x ∉ ms := fun e => by rw [hasB_iff.2 e] at h; cases h
  unfold putIn rest
  rw [List.filter_append, List.filter_cons, if_neg (by simp), ← List.filter_append, List.take_append_drop]
  exact List.filter_eq_self.2 fun y hy => by simp only [decide_eq_true_eq]; exact fun e => hx (e ▸ hy)
theorem putIn_has (x : ByteArray) (ms : List ByteArray) : hasB x (putIn x ms) = true := hasB_iff.2 (by simp [putIn])

noncomputable def joinB (s : Int) (ms : List ByteArray) (x : ByteArray) : Bool := grpB s ms && (wordB x && (!hasB x ms && grpB s (putIn x ms)))
noncomputable def joinN (s : Int) (ms : List ByteArray) (x : ByteArray) : Int := if joinB s ms x = true then s else 0
noncomputable def joinL (s : Int) (ms : List ByteArray) (x : ByteArray) : List ByteArray := if joinB s ms x = true then putIn x ms else []
theorem join_no {s : Int} {ms : List ByteArray} {x : ByteArray} (h : joinB s ms x = false) : joinN s ms x = 0 ∧ joinL s ms x = [] := by simp [joinN, joinL, h]
theorem join_yes {s : Int} {ms : List ByteArray} {x : ByteArray} (h : joinB s ms x = true) : joinN s ms x = s ∧ joinL s ms x = putIn x ms := by simp [joinN, joinL, h]
theorem joinB_parts {s : Int} {ms : List ByteArray} {x : ByteArray} (h : joinB s ms x = true) : grpB s ms = true ∧ wordB x = true ∧ hasB x ms = false ∧ grpB s (putIn x ms) = true := by
  simp only [joinB, Bool.and_eq_true, Bool.not_eq_true'] at h
  exact ⟨h.1, h.2.1, h.2.2.1, h.2.2.2⟩

/-- What slices.BinarySearch tells. -/
theorem bs_any (A : Option Addr) (n c : Nat) (ms : List ByteArray) (x : ByteArray) (w : World) (h : SArg w A n c ms) (h0 : 0 < n) (hn : n ≤ 1000) (hs : ascS ms) :
    Calls Try.prog 46 #[.slice A n c, .string x] w fun e w' => e = .returned (.tuple #[.int .i64 (posOf x ms : Nat), .bool (hasB x ms)]) ∧ w.grownBy w' none := by
  have hm := h.max
  have hc := h.cap
  unfold maxLen at hm
  obtain ⟨g, o, rfl, hg, hcell⟩ := h.li.open_ (by rw [strs_len, h.len]; exact h0)
  by_cases hbig : n < 4611686018427387904
  · have h1 := Any2.slices_BinarySearch_string Lays2_n26 g o n c (fun t => ms.getD t x) x w hbig (fun j hj => by
      have hj' : j < ms.length := by rw [h.len]; exact hj
      show _ = some (Value.string (ms.getD j x))
      rw [List.getD_eq_getElem?_getD, List.getElem?_eq_getElem hj', Option.getD_some]
      exact strAt' hcell hj')
    have hp := pos_le x ms
    have hl := h.len
    have hgo : Lib.bsGo (fun t => Op.bytesLess (ms.getD t x).toList x.toList) n 0 n = posOf x ms := by
      refine Lib.bsGo_spec _ (posOf x ms) (fun t ht => ?_) (fun t ht => ?_) n 0 n (by omega) (Nat.zero_le _) (by omega)
      · have ht' : t < ms.length := by omega
        rw [List.getD_eq_getElem?_getD, List.getElem?_eq_getElem ht', Option.getD_some]
        exact pos_lt x ms ht ht'
      · rcases Nat.lt_or_ge t ms.length with q | q
        · rw [List.getD_eq_getElem?_getD, List.getElem?_eq_getElem q, Option.getD_some]
          exact pos_ge hs ht q
        · rw [List.getD_eq_getElem?_getD, List.getElem?_eq_none q, Option.getD_none]
          exact bl_irrefl _
    refine h1.mono ?_
    rintro e w' ⟨rfl, q, rfl⟩
    refine ⟨?_, gr_drewN (gr_refl _ _) q⟩
    rw [hgo, has_pos hs, hl]
  · exact absurd (show n < 4611686018427387904 from by omega) hbig

theorem gr_setCells (g : Nat) (row : Option Nat) (hr : row = some g) : ∀ (vs : List Value) (o : Nat) (a w : World), a.grownBy w row → a.grownBy (w.setCells g o vs) row
  | [], _, _, _, h => h
  | v :: r, o, a, w, h => gr_setCells g row hr r (o + 1) a _ (gr_set h (.inl (by rw [hr])) v)
theorem Full.shape {w : World} {g : Nat} {t : TypeId} {cs : Array Value} (h : Full w g t cs) : w.shape? g = some (t, cs.size) := by
  unfold Full at h
  simp [World.shape?, h]

/-- What slices.Insert leaves, where there is room for one. -/
theorem ins_any (base b n vb : Nat) (ms : List ByteArray) (x : ByteArray) (w : World) (h : Own w base 9 1 (some ⟨b, 0, none⟩) n (n + 1) (strs ms)) (hv : Full w vb 9 #[.string x]) (hne : vb ≠ b) (hn : n ≤ 1000) :
    Calls Try.prog 47 #[.slice (some ⟨b, 0, none⟩) n (n + 1), .int .i64 (posOf x ms : Nat), .slice (some ⟨vb, 0, none⟩) 1 1] w fun e w' =>
      e = .returned (.slice (some ⟨b, 0, none⟩) (n + 1) (n + 1)) ∧ Lies w' (some ⟨b, 0, none⟩) (strs (putIn x ms)) ∧ w.grownBy w' (some b) := by
  have hl := h.len
  rw [strs_len, Nat.mul_one] at hl
  have hp := pos_le x ms
  rcases h.2 with ⟨hv0, _⟩ | ⟨g', cap, cur, hv0, hbg, hh, hnc, hcm, hsz, htk⟩
  · cases hv0
  injection hv0 with e1 _ e3
  injection e1 with e1
  injection e1 with e1
  subst e1 e3
  have F : Full w b 9 cur := hh
  have hsz1 : cur.size = n + 1 := by rw [hsz, Nat.mul_one]
  have hcs : ∀ j v, (strs ms)[j]? = some v → w.cell? ⟨b, 0 + j, none⟩ = some v := fun j v hj => by
    rw [Nat.zero_add]
    have hown : w.ownsRow base 9 1 (.slice (some ⟨b, 0, none⟩) n (n + 1)) n (strs ms) := h
    have := hown.cells (g := b) rfl j v hj
    rwa [show (⟨b, 0, none⟩ : Addr).add j = ⟨b, j, none⟩ by unfold Addr.add; split <;> simp_all] at this
  have hsp : ∀ j, j < n + 1 → (w.cell? ⟨b, 0 + j, none⟩).isSome = true := fun j hj => by
    rw [Nat.zero_add, F.cell, Array.getElem?_eq_getElem (by omega)]
    rfl
  have hvs : ∀ j v, [Value.string x][j]? = some v → w.cell? ⟨vb, 0 + j, none⟩ = some v := fun j v hj => by
    obtain rfl : j = 0 := by
      rcases Nat.eq_zero_or_pos j with e | e
      · exact e
      · rw [List.getElem?_eq_none (by simp; omega)] at hj; cases hj
    exact hv.cellAt 0 hj
  have h1v : ∀ v ∈ [Value.string x], v.oneCell' = true := by simp [Value.oneCell']
  rcases (by omega : posOf x ms < n ∨ posOf x ms = n) with hlt | heq
  · refine (Any2.slices_Insert_string_shift Lays2_n22 b 0 n (n + 1) (posOf x ms) vb 0 1 1 (strs ms) [.string x] w hlt (by omega) (Nat.le_refl _) (by omega) hne (by rw [strs_len]; exact hl) rfl hcs hsp (fun j _ => F.free _) hvs (strs_one ms) h1v
      9 9 1 (n + 1) hv.shape (by rw [F.shape, hsz1]) (by omega) (hv.free 0) (hv.free 1)).mono ?_
    rintro e w' ⟨rfl, rfl⟩
    refine ⟨rfl, .inr ⟨b, 0, rfl, fun j u hu => ?_⟩, gr_setCells b _ rfl _ _ _ _ (gr_setCells b _ rfl _ _ _ _ (gr_drew (gr_refl w _)))⟩
    have hdl : ((strs ms).drop (posOf x ms)).length = n - posOf x ms := by rw [List.length_drop, strs_len, hl]
    have hD : ∀ j, j < ((strs ms).drop (posOf x ms)).length → (w.drew.cell? ⟨b, 0 + (posOf x ms + 1) + j, none⟩).isSome = true := fun j hj => by
      have := hsp (posOf x ms + 1 + j) (by omega)
      rwa [show 0 + (posOf x ms + 1) + j = 0 + (posOf x ms + 1 + j) by omega]
    have hpu : putIn x ms = ms.take (posOf x ms) ++ x :: ms.drop (posOf x ms) := rfl
    rw [hpu, strs_app] at hu
    have htl : (strs (ms.take (posOf x ms))).length = posOf x ms := by rw [strs_len, List.length_take]; omega
    rcases (by omega : j < posOf x ms ∨ j = posOf x ms ∨ posOf x ms < j) with q | q | q
    · rw [List.getElem?_append_left (by omega)] at hu
      rw [World.cell?_setCells_out b _ _ _ _ (fun _ _ => .inl (by simp; omega)), World.cell?_setCells_out b _ _ _ _ (fun _ _ => .inl (by simp; omega))]
      refine hcs j u ?_
      unfold strs at hu ⊢
      rw [List.map_take, List.getElem?_take, if_pos q] at hu
      exact hu
    · subst q
      rw [List.getElem?_append_right (by omega), htl, Nat.sub_self] at hu
      have hu' : u = .string x := by simpa [strs] using hu.symm
      subst hu'
      have := World.cell?_setCells_in b [.string x] (0 + posOf x ms) (w.drew.setCells b (0 + (posOf x ms + 1)) ((strs ms).drop (posOf x ms))) (fun i hi => by
        refine isSome_setCells b _ _ _ hD _ ?_
        have := hsp (posOf x ms + i) (by simp at hi; omega)
        rwa [show 0 + posOf x ms + i = 0 + (posOf x ms + i) by omega]) 0 (by simp)
      simpa using this
    · rw [List.getElem?_append_right (by omega), htl] at hu
      obtain ⟨i, rfl⟩ : ∃ i, j = posOf x ms + 1 + i := ⟨j - posOf x ms - 1, by omega⟩
      rw [show posOf x ms + 1 + i - posOf x ms = i + 1 by omega] at hu
      have hu2 : ((strs ms).drop (posOf x ms))[i]? = some u := by
        have : (strs (x :: ms.drop (posOf x ms)))[i + 1]? = (strs (ms.drop (posOf x ms)))[i]? := by simp [strs]
        rw [this] at hu
        unfold strs at hu ⊢
        rw [← List.map_drop]
        exact hu
      have hi : i < ((strs ms).drop (posOf x ms)).length := (List.getElem?_eq_some_iff.1 hu2).1
      rw [World.cell?_setCells_out b _ _ _ _ (fun _ _ => .inr (by first | omega | (simp; done) | (simp; omega)))]
      have := World.cell?_setCells_in b ((strs ms).drop (posOf x ms)) (0 + (posOf x ms + 1)) w.drew hD i hi
      rw [show 0 + (posOf x ms + 1) + i = 0 + (posOf x ms + 1 + i) by omega] at this
      rw [this]
      rw [List.getElem?_eq_getElem hi] at hu2
      exact hu2
  · have h1 := Any2.slices_Insert_string_end_room Lays2_n22 b 0 n (n + 1) vb 0 1 1 [.string x] w (by omega) (Nat.le_refl _) (by omega) rfl (fun j hj => by
        have := hsp (n + j) (by omega)
        rwa [show 0 + n + j = 0 + (n + j) by omega]) (fun j _ => F.free _) hvs h1v
    rw [heq]
    refine h1.mono ?_
    rintro e w' ⟨rfl, rfl⟩
    refine ⟨rfl, .inr ⟨b, 0, rfl, fun j u hu => ?_⟩, gr_setCells b _ rfl _ _ _ _ (gr_refl w _)⟩
    have hpu : putIn x ms = ms ++ [x] := by
      unfold putIn
      rw [List.take_of_length_le (by omega), List.drop_of_length_le (by omega)]
    rw [hpu, strs_app] at hu
    rcases (by omega : j < n ∨ n ≤ j) with q | q
    · rw [List.getElem?_append_left (by rw [strs_len]; omega)] at hu
      rw [World.cell?_setCells_out b _ _ _ _ (fun _ _ => .inl (by simp; omega))]
      exact hcs j u hu
    · rw [List.getElem?_append_right (by rw [strs_len]; omega), strs_len, hl] at hu
      obtain rfl : j = n := by
        rcases Nat.eq_or_lt_of_le q with e | e
        · exact e.symm
        · rw [List.getElem?_eq_none (by simp [strs]; omega)] at hu; cases hu
      rw [Nat.sub_self] at hu
      have hu' : u = .string x := by simpa [strs] using hu.symm
      subst hu'
      have := World.cell?_setCells_in b [.string x] (0 + j) w (fun i hi => by
        have := hsp (j + i) (by simp at hi; omega)
        rwa [show 0 + j + i = 0 + (j + i) by omega]) 0 (by simp)
      simpa using this
end Go.Proofs.Ytmjficimnkbonaa
