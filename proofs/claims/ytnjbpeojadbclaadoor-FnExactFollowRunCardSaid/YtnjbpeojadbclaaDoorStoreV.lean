/- impl.StoreValid. -/
import Derived.Test.YtnjbpeojadbclaaDoorStreams
import Derived.Test.YtnjbpeojadbclaaDoorEvsV
namespace Go.Proofs.YtnjbpeojadbclaaDoor
open Go.RowKit Go.Maps Go.WideMaps Go.WideAt

theorem grp_cons_same {s : ByteArray} {l : List En} {e : En} (h : e.nm = s) : grp s (e :: l) = e.ev :: grp s l := by simp [grp, h]
theorem grp_cons_other {s : ByteArray} {l : List En} {e : En} (h : e.nm ≠ s) : grp s (e :: l) = grp s l := by simp [grp, h]
theorem grp_mem {s : ByteArray} {l : List En} {v : Ev} (h : v ∈ grp s l) : ∃ e ∈ l, e.nm = s ∧ e.ev = v := by
  obtain ⟨e, he, rfl⟩ := List.mem_map.1 h
  have h1 := List.mem_filter.1 he
  exact ⟨e, h1.1, by simpa using h1.2, rfl⟩
theorem mem_grp {l : List En} {e : En} (h : e ∈ l) : e.ev ∈ grp e.nm l := List.mem_map.2 ⟨e, List.mem_filter.2 ⟨h, by simp⟩, rfl⟩
/-- No two entries share name and number if in no group two events share the number. -/
theorem keys_nodup : ∀ l : List En, (l.map En.key).Nodup ↔ ∀ s, ((grp s l).map Ev.id).Nodup
  | [] => by simp [grp]
  | e :: l => by
    have ih := keys_nodup l
    rw [List.map_cons, List.nodup_cons, ih]
    constructor
    · rintro ⟨h1, h2⟩ s
      by_cases hs : e.nm = s
      · rw [grp_cons_same hs, List.map_cons, List.nodup_cons]
        refine ⟨fun hm => h1 ?_, h2 s⟩
        obtain ⟨v, hv, hid⟩ := List.mem_map.1 hm
        obtain ⟨e2, he2, hn, rfl⟩ := grp_mem hv
        exact List.mem_map.2 ⟨e2, he2, by rw [En.key, En.key, hn, hs, hid]⟩
      · rw [grp_cons_other hs]
        exact h2 s
    · intro h
      refine ⟨fun hm => ?_, fun s => ?_⟩
      · obtain ⟨e2, he2, hk⟩ := List.mem_map.1 hm
        have h3 := h e.nm
        rw [grp_cons_same rfl, List.map_cons, List.nodup_cons] at h3
        refine h3.1 (List.mem_map.2 ⟨e2.ev, ?_, (Prod.mk.inj hk).2⟩)
        have h4 := mem_grp he2
        rwa [(Prod.mk.inj hk).1] at h4
      · have h3 := h s
        by_cases hs : e.nm = s
        · rw [grp_cons_same hs, List.map_cons, List.nodup_cons] at h3
          exact h3.2
        · rwa [grp_cons_other hs] at h3
theorem grp_valid {l : List En} (hn : l.length ≤ 24) (ha : l.all enB = true) (s : ByteArray) : evsB (grp s l) = decide ((grp s l).map Ev.id).Nodup := by
  have h1 : decide ((grp s l).length ≤ 24) = true := by simpa using Nat.le_trans (grp_len s l) hn
  have h2 : (grp s l).all evB = true := by
    rw [List.all_eq_true]
    intro v hv
    obtain ⟨e, he, _, rfl⟩ := grp_mem hv
    have h3 := List.all_eq_true.1 ha e he
    rw [enB, Bool.and_eq_true] at h3
    exact h3.2
  rw [evsB, h1, h2, Bool.true_and, Bool.true_and]
theorem store_groups {l : List En} (hn : l.length ≤ 24) (ha : l.all enB = true) (h : ∀ s, evsB (grp s l) = true) : storeB l = true := by
  have h1 : (l.map En.key).Nodup := (keys_nodup l).2 fun s => by have h2 := h s; rw [grp_valid hn ha] at h2; simpa using h2
  simp only [storeB, hn, ha, h1, decide_true, Bool.and_self]
theorem store_group {l : List En} (hn : l.length ≤ 24) (ha : l.all enB = true) {s : ByteArray} (h : evsB (grp s l) = false) : storeB l = false := by
  have h1 : ¬ (l.map En.key).Nodup := fun x => by
    rw [grp_valid hn ha] at h
    have h2 := (keys_nodup l).1 x s
    simp [h2] at h
  simp only [storeB, h1, decide_false, Bool.and_false]
theorem evs_nil : evsB [] = true := by decide

set_option maxHeartbeats 4000000 in
set_option maxRecDepth 100000 in
theorem sv_is (A : Option Addr) (n c : Nat) (l : List En) (b : Bool) (a : Addr) (w : World) (h : EArg w A n c l) (hE : Sent w a) (hb : storeB l = b) :
    Calls Tryd.prog 18 #[.slice A n c] w fun e w' => e = .returned (.bool b) ∧ w.grownBy w' none := by
  have hc := h.cap
  have hm := h.max
  unfold maxLen at hm
  have HN := hid h.len
  have HA := hid h
  have HB := hid hb
  have HE := hid hE
  clear h hE hb
  by_cases h24 : n > 24
  · obtain rfl : b = false := by rw [← HB.out]; exact storeB_long (by rw [HN.out]; exact h24)
    go_enter Tryd.func18, Tryd.ntmps18
    go_wp2_with fail
    go_ret
    exact ⟨rfl, gr_refl _ _⟩
  have so := hid (fun w' (hg : w.grownBy w' none) => so_any A n c l w' (HA.out.grown0 hg) (by omega))
  go_enter Tryd.func18, Tryd.ntmps18
  go_wp2_with fail
  go_loopw [12] (fun i wr => ∃ k : Nat, i = .int .i64 (k : Int) ∧ k ≤ n ∧ (l.take k).all enB = true ∧ w.grownBy wr none) (fun i _ => n - (intOf i).toNat)
  case atStart => exact ⟨0, rfl, by omega, rfl, gr_refl _ _⟩
  case round =>
    obtain ⟨k, rfl, hkn, hall, hgr⟩ := hrel
    have HAl := hid hall
    clear hall
    by_cases hlt : k < n
    · have hkl : k < l.length := by rw [HN.out]; exact hlt
      obtain ⟨g, o, hAe, hgl, hcells⟩ := HA.out.open_ (by omega)
      have cc := hcells k hkl wr hgr
      have hok := HA.out.ok _ (List.getElem_mem hkl)
      have HTk := hid (List.take_succ_eq_append_getElem hkl)
      have HBad := hid (fun h : enB l[k] = false => storeB_bad hkl h)
      obtain ⟨x, hx⟩ : ∃ x, l[k] = x := ⟨_, rfl⟩
      rw [hx] at cc hok HTk HBad
      obtain ⟨nm, ei, ek, ed⟩ := x
      simp only [] at cc
      have o1 := hok.nm
      have o2 := hok.kind
      simp only [] at o1 o2
      obtain ⟨c0, c1, c2, c3⟩ := cc
      obtain ⟨b1, hb1⟩ : ∃ b, enB ⟨nm, ⟨ei, ek, ed⟩⟩ = b := ⟨_, rfl⟩
      have G1 := gr_alloc hgr (.cells #[.string nm, .int .i64 ei, .string ek, .int .i64 ed] 42)
      have e1 := env_is nm ei ek ed b1 a _ o1 o2 (HE.out.grown0 G1) hb1
      have E1 := Full.new wr 42 #[.string nm, .int .i64 ei, .string ek, .int .i64 ed]
      have q0 := E1.cellAt 0 rfl
      have q1 := E1.cellAt 1 rfl
      have q2 := E1.cellAt 2 rfl
      have q3 := E1.cellAt 3 rfl
      have p0 : (0 : Int) ≤ (k : Int) := by omega
      have p1 : (k : Int) < (n : Int) := by omega
      have HB1 := hid hb1
      subst hAe
      clear hx hcells hgl hok hb1 o1 o2
      go_wp2_with fail
      refine e1.mono ?_
      rintro e w1 ⟨rfl, hg1⟩
      have G2 := gr_0 G1 hg1
      clear e1 hg1 G1
      cases b1 with
      | false =>
        obtain rfl : b = false := by rw [← HB.out]; exact HBad.out HB1.out
        go_wp2_with fail
        go_ret
        exact ⟨rfl, G2⟩
      | true =>
        have HX := hid (show (l.take (k + 1)).all enB = true by rw [HTk.out, List.all_append, HAl.out]; simpa using HB1.out)
        go_wp2_with fail
        go_roundw
        case rel => exact ⟨k + 1, by go_num, by omega, HX.out, G2⟩
        case measure => simp [intOf]; omega
    · obtain rfl : n = k := by omega
      have HAll := hid (show l.all enB = true by
        have h1 := HAl.out
        rwa [List.take_of_length_le (by rw [HN.out]; omega)] at h1)
      have hl24 : l.length ≤ 24 := by rw [HN.out]; omega
      have HYes := hid (store_groups hl24 HAll.out)
      have HNo := hid (fun s h => store_group (s := s) hl24 HAll.out h)
      have HKind := hid (fun s v (hv : v ∈ grp s l) => by
        obtain ⟨e, he, _, rfl⟩ := grp_mem hv
        exact (HA.out.ok e he).kind : ∀ s, ∀ v ∈ grp s l, v.kind.size ≤ maxLen)
      clear HAl hl24
      go_wp2_with fail
      refine (so.out _ hgr).mono ?_
      rintro e w1 ⟨D, rfl, hG1, hg1⟩
      have G1 := gr_0 hgr hg1
      have HG := hid hG1
      have hbl := hG1.own.lt
      obtain ⟨B, hB⟩ : ∃ B, wr.heap.size = B := ⟨_, rfl⟩
      rw [hB] at HG hbl ⊢
      have hsz : w.heap.size ≤ B := by rw [← hB]; exact hgr.size
      have hownB := HG.out.own
      clear hG1 hg1 so hB
      obtain ⟨R, hR⟩ : ∃ R, w1.heap.size = R := ⟨_, rfl⟩
      have HR := hid hR
      have HS1 := hid (show w.heap.size ≤ w1.heap.size from G1.size)
      clear hR
      go_wp2_with (first
        | (at_range; refine wpList_range_own _ rfl _ 55 rfl 9 57 keyStr Tryd.underlying55 _ B _ _ rfl hownB ?_; intro w0 hrg0 hg0 hs0; rw [HR.out] at hrg0 ⊢)
        | fail)
      have HRg := hid hrg0
      clear hrg0 hownB
      go_frame
      go_loopw [6] (fun _ wq => ∃ (left : Lit → Bool) (cnt : Nat), wq.ranges Tryd.prog 9 hdr B R n D left cnt ∧ w1.grownBy wq none ∧ ∀ s, left (klit s) = false → evsB (grp s l) = true) (fun _ wq => wq.rangeLeft B R)
      case atStart => exact ⟨_, _, HRg.out, hg0, fun s hs => by rw [HG.out.has s hs]; exact evs_nil⟩
      case round =>
        rename_i wq
        obtain ⟨left, cnt, hrg, hgq, hval⟩ := hrel
        have HV := hid hval
        have HRq := hid hrg
        clear hval
        go_wp2_with (first
          | (at_next; refine wpList_next_ranges (α := ByteArray) (β := Option Addr × Nat × Nat) _ rfl _ rfl 9 keyStr hdr Value.string (fun c => .slice c.1 c.2.1 c.2.2) (fun key kl h => let ⟨s, e, _⟩ := string_of_keyOf Tryd.underlying9 h; ⟨s, e⟩) (fun v y h => by obtain ⟨a, n, c, rfl, _⟩ := hdr_inv h; exact ⟨(a, n, c), rfl⟩) B R n D left cnt rfl HRq.out ?_ ?_)
          | fail)
        · intro _ hl0
          have hbt : b = true := by rw [← HB.out]; exact HYes.out (fun s => HV.out s (hl0 _))
          subst hbt
          clear hl0
          go_wp2_with fail
          go_ret
          exact ⟨rfl, gr_0 G1 hgq⟩
        · intro x A1 k1 c1 kl y1 y2 wn cnt1 hkey hlx hy hat hrg1 hlt1 hgn hsn hen
          obtain ⟨s', hs', hkl, hsz'⟩ := string_of_keyOf Tryd.underlying9 hkey
          injection hs' with hs'
          subst hs'
          have hkl2 : kl = klit x := hkl
          subst hkl2
          rw [hdr_mk] at hy
          obtain ⟨hy1, hy2⟩ := Prod.mk.inj (Option.some.inj hy)
          subst hy1 hy2
          have hRn : R = w1.heap.size := HR.out.symm
          have Gn : w1.grownBy wn none := gr_then hgq hgn (fun g hg => .inr (by injection hg with hg; omega))
          obtain ⟨A2, k2, c2, hat2, hown2, hl2⟩ := (HG.out.grown0 Gn).els x
          have h3 := hat nilS
          rw [hat2] at h3
          injection h3 with h3
          injection h3 with h31 h32 h33
          subst h31 h32 h33
          obtain ⟨bv, hbv⟩ : ∃ b, evsB (grp x l) = b := ⟨_, rfl⟩
          have e1 := evsv_is A2 k2 c2 (grp x l) bv wn hown2.lies hl2 hown2.cap hown2.max (HKind.out x) hbv
          have HBv := hid hbv
          have HR1 := hid hrg1
          have HLt := hid hlt1
          clear hkey hlx hy hat hrg1 hlt1 hgn hsn hkl hsz' hat2 hown2 hl2 hbv hRn
          go_wp2_with fail
          refine e1.mono ?_
          rintro e w5 ⟨rfl, hg5⟩
          have G5 := gr_0 Gn hg5
          clear e1
          cases bv with
          | false =>
            obtain rfl : b = false := by rw [← HB.out]; exact HNo.out x HBv.out
            go_wp2_with fail
            go_ret
            exact ⟨rfl, gr_0 G1 G5⟩
          | true =>
            have HR5 := hid (HR1.out.kept hg5 (by simp) (by simp))
            clear hg5 hen
            go_wp2_with fail
            go_roundw
            case rel =>
              refine ⟨_, cnt1, HR5.out, G5, fun s hs => ?_⟩
              cases hls : left (klit s) with
              | false => exact HV.out s hls
              | true =>
                simp only [hls, Bool.true_and, Bool.not_eq_false'] at hs
                have hsx := klit_inj (WideAt.sameKey_eq hs)
                subst hsx
                exact HBv.out
            case measure => rw [HR5.out.left_eq, HRq.out.left_eq]; exact HLt.out
end Go.Proofs.YtnjbpeojadbclaaDoor
