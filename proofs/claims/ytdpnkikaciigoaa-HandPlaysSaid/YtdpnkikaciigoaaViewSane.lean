/-
  The walk of ViewSane.
-/
import Derived.Test.YtdpnkikaciigoaaViewAp
import Derived.Test.YtdpnkikaciigoaaViewLaw
import Derived.Test.YtdpnkikaciigoaaRegionY
import Derived.Laws.BitsLemmas
namespace Go.Proofs.Ytdpnkikaciigoaa
open Go.RowKit Go.Proofs

/-- the node of a number: its last three bits, and one -/
def nd (x : Int) : Int := 1 + bits .and .i64 x 7
theorem and7_range (x : Int) : 0 ≤ bits .and .i64 x 7 ∧ bits .and .i64 x 7 ≤ 7 := by
  have h : (BitVec.ofInt 64 x &&& BitVec.ofInt 64 7).toNat ≤ 7 := by
    rw [BitVec.toNat_and]
    exact Nat.and_le_right
  have e : bits .and .i64 x 7 = IntKind.i64.wrap ((BitVec.ofInt 64 x &&& BitVec.ofInt 64 7).toNat : Int) := rfl
  rw [e, IntKind.wrap_i64]
  omega
theorem nd_range (x : Int) : 1 ≤ nd x ∧ nd x ≤ 8 := by have := and7_range x; unfold nd; omega
theorem nd_parts (x : Int) : ∃ v : Int, bits .and .i64 x 7 = v ∧ nd x = 1 + v ∧ 0 ≤ v ∧ v ≤ 7 := ⟨_, rfl, rfl, (and7_range x).1, (and7_range x).2⟩
/-- a set of such nodes -/
def addAll (l : List Int) : List Int := l.foldl (fun s x => sAdd s 64 (nd x)) []
theorem addAll_snoc (l : List Int) (x : Int) : addAll (l ++ [x]) = sAdd (addAll l) 64 (nd x) := by unfold addAll; rw [List.foldl_append]; rfl
theorem sAdd_le (l : List Int) (m n : Int) : (sAdd l m n).length ≤ l.length + 1 := by
  unfold sAdd
  split
  · omega
  · split
    · rw [ins_length]; omega
    · omega
theorem addAll_good : ∀ (n : Nat) (l : List Int), l.length = n → Good (addAll l) 64 ∧ (addAll l).length ≤ l.length := by
  intro n
  induction n with
  | zero => intro l h; rw [List.eq_nil_of_length_eq_zero h]; exact ⟨Good.nil (by omega) (by omega), by simp [addAll]⟩
  | succ n ih =>
    intro l h
    have hne : l ≠ [] := by intro h'; rw [h'] at h; simp at h
    have ih' := ih l.dropLast (by rw [List.length_dropLast]; omega)
    rw [← List.dropLast_concat_getLast hne, addAll_snoc]
    refine ⟨ih'.1.add _, ?_⟩
    have := sAdd_le (addAll l.dropLast) 64 (nd (l.getLast hne))
    simp only [List.length_append, List.length_singleton]
    omega
theorem addAll_mem : ∀ (n : Nat) (l : List Int), l.length = n → l.length ≤ 20 → ∀ x, x ∈ addAll l ↔ ∃ y ∈ l, nd y = x := by
  intro n
  induction n with
  | zero => intro l h _ x; rw [List.eq_nil_of_length_eq_zero h]; simp [addAll]
  | succ n ih =>
    intro l h h20 x
    have hne : l ≠ [] := by intro h'; rw [h'] at h; simp at h
    have hl : l.dropLast.length = n := by rw [List.length_dropLast]; omega
    have ih' := ih l.dropLast hl (by omega) x
    have hg := addAll_good n l.dropLast hl
    have hr := nd_range (l.getLast hne)
    have hok : sAddOk (addAll l.dropLast) 64 (nd (l.getLast hne)) = true := by
      unfold sAddOk
      rw [decide_eq_true hr.1, decide_eq_true (show nd (l.getLast hne) ≤ 65535 by omega), decide_eq_true (show ((addAll l.dropLast).length : Int) < 64 by have := hg.2; omega)]
      simp
    have e := List.dropLast_concat_getLast hne
    constructor
    · intro hx
      rw [← e, addAll_snoc] at hx
      rcases sAdd_sub hx with h1 | h1
      · exact ⟨_, List.getLast_mem hne, h1.symm⟩
      · obtain ⟨y, hy, hyx⟩ := ih'.1 h1
        exact ⟨y, List.dropLast_subset l hy, hyx⟩
    · rintro ⟨y, hy, hyx⟩
      rw [← e] at hy ⊢
      rw [addAll_snoc]
      rcases List.mem_append.1 hy with h1 | h1
      · exact sAdd_sup (ih'.2 ⟨y, h1, hyx⟩)
      · rw [List.mem_singleton.1 h1] at hyx
        rw [← hyx]
        exact sAdd_has hok
/-- is none of these active? -/
def noneIn (A l : List Int) : Bool := l.all (fun x => !has A (nd x))
theorem noneIn_snoc (A l : List Int) (x : Int) : noneIn A (l ++ [x]) = (noneIn A l && !has A (nd x)) := by unfold noneIn; simp
theorem noneIn_any (A l : List Int) (h : l.length ≤ 20) : noneIn A l = !A.any (has (addAll l)) := by
  rw [Bool.eq_iff_iff]
  unfold noneIn
  rw [List.all_eq_true, Bool.not_eq_true', List.any_eq_false]
  constructor
  · intro h1 x hx hp
    obtain ⟨y, hy, rfl⟩ := (addAll_mem _ l rfl h x).1 ((has_iff _ _).1 hp)
    have := h1 y hy
    rw [(has_iff _ _).2 hx] at this
    cases this
  · intro h1 y hy
    have := h1 (nd y)
    cases hh : has A (nd y)
    · rfl
    · exact absurd ((has_iff _ _).2 ((addAll_mem _ l rfl h _).2 ⟨y, hy, rfl⟩)) (this ((has_iff _ _).1 hh))
theorem sane_law (A P l : List Int) (s : Int) (hP : P = addAll l) (h : l.length ≤ 20) : (vSane ⟨s, A, 64, P, 64⟩ == ((noneIn A l && !has A s) && !has P s)) = true := by
  rw [noneIn_any A l h, ← hP]
  unfold vSane
  simp only
  cases has A s <;> cases has P s <;> cases A.any (has P) <;> rfl

/-- a view in a variable -/
structure VarV (W : World) (q : Nat) (w : World) (v : Vw) (y : VwP) : Prop where
  blk : w.heap[q]? = some (.cells (v.arr y) 29 (0, 0))
  at_ : VwAt w v y
  apart : VwApart (fun k => k = q) v y
  gr : Gr W w
theorem VarV.keep {W w w' : World} {q : Nat} {v : Vw} {y : VwP} (h : VarV W q w v y) (f : Gr w w') : VarV W q w' v y := ⟨blk_keep f h.blk (fun h => h), h.at_.gr f, h.apart, Gr.trans h.gr f⟩
theorem VarV.lt {W w : World} {q : Nat} {v : Vw} {y : VwP} (h : VarV W q w v y) : q < w.heap.size := (Array.getElem?_eq_some_iff.1 h.blk).1

set_option maxHeartbeats 8000000 in
set_option maxRecDepth 100000 in
theorem viewSane_walk (a1 : Option Addr) (c1 : Nat) (la : List Int) (a2 : Option Addr) (c2 : Nat) (lp : List Int) (self : Int) (W : World) (h1 : SlA W a1 la.length c1 (ints la)) (h2 : SlA W a2 lp.length c2 (ints lp)) :
    Calls Try.prog 4 #[.slice a1 la.length c1, .slice a2 lp.length c2, .int .i64 self] W fun e w' => e = .returned (.bool true) ∧ Gr W w' := by
  obtain ⟨iz, hz1, hz2, hzs⟩ := info_pair Try.zeroView
  have S0 := Lib.hid (speaks09_any W)
  have HA := Lib.hid h1
  have HP := Lib.hid h2
  have e1 := h1.le
  have e2 := h1.max
  have e3 := h2.le
  have e4 := h2.max
  obtain ⟨n1, hn1⟩ : ∃ n, n = min la.length 20 := ⟨_, rfl⟩
  obtain ⟨n2, hn2⟩ : ∃ n, n = min lp.length 20 := ⟨_, rfl⟩
  have HN1 := Lib.hid hn1
  have HN2 := Lib.hid hn2
  clear h1 h2 hn1 hn2
  go_enter Try.func4, Try.ntmps4
  go_wp2_with fail
  refine S0.out.mono ?_
  rintro e w1 ⟨rfl, f1⟩
  have F1 := Lib.hid f1
  have CN := Lib.hid (viewNew_any 0 64 64 w1)
  clear f1 S0
  go_wp2_with fail
  refine CN.out.mono ?_
  rintro e w2 ⟨rfl, f2⟩
  have F2 := Lib.hid (Gr.trans F1.out f2)
  clear f2 F1 CN
  go_wp2_with (refine wpList_fresh (vs := (vwNew 0 64 64).arr vwNone) hz1 hz2 Try.infoView (by rfl) (by rw [← Array.all_toList]; rfl) (by rfl) (by rfl) ?_)
  intro w3 f3 b3 l3
  obtain ⟨q, hq⟩ : ∃ q, q = w2.heap.size := ⟨_, rfl⟩
  rw [← hq] at b3 l3 ⊢
  have hWq : W.heap.size ≤ q := by rw [hq]; exact F2.out.size
  have VV : Hid (VarV W q w3 ⟨0, [], 64, [], 64⟩ vwNone) := Lib.hid ⟨b3, vwNone_at w3 0 64 64, VwApart.none _ _, Gr.trans F2.out f3⟩
  clear f3 b3 l3 hq F2
  go_upto_region 5 with fail
  go_wp2_with fail
  go_loopw [9] (fun iv wr => ∃ (k : Nat) (y : VwP), iv = .int .i64 k ∧ k ≤ n1 ∧ VarV W q wr ⟨0, addAll (la.take k), 64, [], 64⟩ y) (fun iv _ => n1 - (intOf iv).toNat)
  case atStart => exact ⟨0, vwNone, rfl, Nat.zero_le _, VV.out⟩
  case round =>
    obtain ⟨k, y, rfl, hk, hv⟩ := hrel
    have VK := Lib.hid hv
    have hqw := hv.lt
    clear hv VV
    go_upto_region 6 with fail
    go_cut [22] from 15 to 22 (fun c wx => c = .bool (decide (k < n1)) ∧ wr = wx)
    case first =>
      by_cases h1 : (k : Int) < (la.length : Int)
      · by_cases h2 : (k : Int) < 20
        · have hd := Lib.hid (show decide (k < n1) = true by have := HN1.out; simp; omega)
          go_wp2_with fail
          go_meet
          exact ⟨by rw [hd.out], rfl⟩
        · have hd := Lib.hid (show decide (k < n1) = false by have := HN1.out; simp; omega)
          go_wp2_with fail
          go_meet
          exact ⟨by rw [hd.out], rfl⟩
      · have hd := Lib.hid (show decide (k < n1) = false by have := HN1.out; simp; omega)
        go_wp2_with fail
        go_meet
        exact ⟨by rw [hd.out], rfl⟩
    case rest =>
      obtain ⟨rfl, rfl⟩ := hcut
      by_cases hlt : k < n1
      · rw [decide_eq_true hlt]
        have hkl : k < la.length := by have := HN1.out; omega
        obtain ⟨b, o, rfl, hc⟩ := (HA.out.keep VK.out.gr (fun _ _ h => h)).int k hkl
        have hA2 := addAll_snoc (la.take k) la[k]
        rw [← List.take_succ_eq_append_getElem hkl] at hA2
        obtain ⟨A, hA⟩ : ∃ A, A = addAll (la.take k) := ⟨_, rfl⟩
        rw [← hA] at hA2 VK
        obtain ⟨xv, hxv⟩ : ∃ x, x = la[k] := ⟨_, rfl⟩
        rw [← hxv] at hA2 hc
        obtain ⟨bv, hbv, hnd, hb0, hb7⟩ := nd_parts xv
        rw [hnd] at hA2
        clear hnd hxv
        have HA2 := Lib.hid hA2
        clear hA hA2
        have hbq : b ≠ q := by
          obtain ⟨b', o', e', hc'⟩ := HA.out.int k hkl
          cases e'
          have := lt_of_cell hc'
          simp only at this
          omega
        haveI : Nonempty (WC (Fr (fun k => k = q) wr)) := ⟨⟨wr, Fr.refl _ _⟩⟩
        have zr : ∀ z : WC (Fr (fun k => k = q) wr), z.val.cell? ⟨b, o + k, none⟩ = some (.int .i64 xv) := fun z => z.ok.cell hc hbq
        have hkz : (k : Int) < (la.length : Int) := by omega
        have l1 := VK.out.at_.act.le
        have l2 := VK.out.at_.act.max
        obtain ⟨wd, hwd⟩ : ∃ wd, wd = wr.drew := ⟨_, rfl⟩
        have fd : Gr wr wd := by rw [hwd]; exact (Fr.refl _ _).drew
        have VD := Lib.hid (VK.out.keep fd)
        have HWD := Lib.hid hwd
        have y1 := (Bx.of_block VD.out.blk) 1 _ rfl
        have y2 := (Bx.of_block VD.out.blk) 2 _ rfl
        clear hc hk hbq hwd
        go_upto_region 8 with fail
        refine wp_region_plan [1, 8, 13] (Plan.seq (List.range 14) .done) (fun w' => ∃ z : WC (Fr (fun k => k = q) wr), w' = z.val) (by kernel_rfl) (by kernel_rfl) (fun c a w d v h => by cases d <;> exact h) (fun c a w d v h => by cases d <;> exact h) ⟨⟨wr.drew, (Fr.refl _ _).drew⟩, rfl⟩ ?_
        rw [← HWD.out]
        clear HWD
        simp only [Plan.seq, List.range, List.range.loop, List.foldr]
        refine wpV_q (by simp only [List.getElem?_toArray, List.getElem?_cons_zero] <;> rfl) (by rfl) (by rfl) ?_
        go_big_quiet_step (fail)
        refine wpQuiet_nil ?_
        refine wpV_e (by simp only [List.getElem?_toArray, List.getElem?_cons_succ, List.getElem?_cons_zero] <;> rfl) (by rfl) ?_
        go_wp2_with fail
        refine ⟨⟨⟨wd, Fr.mono (T := fun k => k = q) fd (fun _ _ h => h.elim)⟩, rfl⟩, ?_⟩
        repeat (refine wpV_q (by simp only [List.getElem?_toArray, List.getElem?_cons_succ, List.getElem?_cons_zero] <;> rfl) (by rfl) (by rfl) ?_; go_big_quiet_step (fail); refine wpQuiet_nil ?_)
        refine wpV_e (by simp only [List.getElem?_toArray, List.getElem?_cons_succ, List.getElem?_cons_zero] <;> rfl) (by rfl) ?_
        go_wp2_with fail
        refine (setAdd3_any y.aa y.ac A 64 (1 + bv) wd VD.out.at_.act VD.out.at_.good.act).mono ?_
        rintro e w5 ⟨a', cap', rfl, hs', f', hfr'⟩
        obtain ⟨A', hA'⟩ : ∃ A', A' = sAdd A 64 (1 + bv) := ⟨_, rfl⟩
        rw [← hA'] at hs' hfr' HA2 ⊢
        have f5 : Gr wr w5 := Gr.trans fd f'
        have K5 : VwFrom wd ⟨0, A, 64, [], 64⟩ y ⟨0, A', 64, [], 64⟩ ⟨a', cap', y.pa, y.pc⟩ := ⟨hfr', fun q h => .inl ⟨h, rfl⟩⟩
        have hqd := VD.out.lt
        have H5 := Lib.hid (show VwAt w5 ⟨0, A', 64, [], 64⟩ ⟨a', cap', y.pa, y.pc⟩ from ⟨hs', (VK.out.at_.gr f5).pas, ⟨by rw [hA']; exact VK.out.at_.good.act.add _, VK.out.at_.good.pas⟩⟩)
        have AP5 := Lib.hid (VK.out.apart.next K5 (fun k h => by omega))
        have B5 := Lib.hid (blk_keep f5 VK.out.blk (fun h => h))
        have G5 := Lib.hid (Gr.trans VK.out.gr f5)
        have F5 := Lib.hid f5
        have l3 := hs'.le
        have l4 := hs'.max
        clear f' K5 hs' hfr' hA' f5 VK VD y1 y2 fd
        go_wp2_with fail
        refine ⟨⟨⟨w5, Fr.mono (T := fun k => k = q) F5.out (fun _ _ h => h.elim)⟩, rfl⟩, ?_⟩
        repeat (refine wpV_q (by simp only [List.getElem?_toArray, List.getElem?_cons_succ, List.getElem?_cons_zero] <;> rfl) (by rfl) (by rfl) ?_; go_big_quiet_step (fail); refine wpQuiet_nil ?_)
        refine wpV_e (by simp only [List.getElem?_toArray, List.getElem?_cons_succ, List.getElem?_cons_zero] <;> rfl) (by rfl) ?_
        go_wp2_with (refine wpList_storeB (o := 1) (vs := #[.slice a' A'.length cap', .int .i64 64]) B5.out (by rfl) 27 _ _ (by rfl) (by rfl) (by rfl) (Nat.le_of_ble_eq_true rfl) Try.infoSet2 (by rw [← Array.all_toList]; rfl) ?_)
        intro w6 f6 b6
        refine wpList_nil ?_
        refine ⟨⟨⟨w6, Fr.trans (Fr.mono (T := fun k => k = q) F5.out (fun _ _ h => h.elim)) f6 (fun k h => .inl h)⟩, rfl⟩, ?_⟩
        refine wpV_done ?_
        clear zr this
        have V6 : Hid (VarV W q w6 ⟨0, A', 64, [], 64⟩ ⟨a', cap', y.pa, y.pc⟩) := Lib.hid ⟨b6, H5.out.keepA f6 AP5.out, AP5.out, fr_new G5.out f6 hWq⟩
        clear f6 b6 H5 AP5 B5 G5 F5
        go_wp2_with fail
        go_roundw
        case rel => exact ⟨k + 1, _, by go_num, hlt, by rw [HA2.out]; exact V6.out⟩
        case measure => simp [intOf]; omega
      · rw [decide_eq_false hlt]
        obtain ⟨A, hA⟩ : ∃ A, A = addAll (la.take k) := ⟨_, rfl⟩
        rw [← hA] at VK
        clear hA hlt hk hqw
        go_upto_region 9 with fail
        go_wp2_with fail
        go_loopw [8, 10] (fun gv iv wr => ∃ (k : Nat) (y : VwP), iv = .int .i64 k ∧ k ≤ n2 ∧ gv = .bool (noneIn A (lp.take k)) ∧ VarV W q wr ⟨0, A, 64, addAll (lp.take k), 64⟩ y) (fun _ iv _ => n2 - (intOf iv).toNat)
        case atStart => exact ⟨0, y, rfl, Nat.zero_le _, rfl, VK.out⟩
        case round =>
          clear VK
          obtain ⟨k, y, rfl, hk, rfl, hv⟩ := hrel
          have VK := Lib.hid hv
          have hqw := hv.lt
          obtain ⟨g, hg⟩ : ∃ g, g = noneIn A (lp.take k) := ⟨_, rfl⟩
          rw [← hg]
          have HGG := Lib.hid hg
          clear hv hg
          go_upto_region 10 with fail
          go_cut [45] from 38 to 45 (fun c wx => c = .bool (decide (k < n2)) ∧ wr = wx)
          case first =>
            by_cases h1 : (k : Int) < (lp.length : Int)
            · by_cases h2 : (k : Int) < 20
              · have hd := Lib.hid (show decide (k < n2) = true by have := HN2.out; simp; omega)
                go_wp2_with fail
                go_meet
                exact ⟨by rw [hd.out], rfl⟩
              · have hd := Lib.hid (show decide (k < n2) = false by have := HN2.out; simp; omega)
                go_wp2_with fail
                go_meet
                exact ⟨by rw [hd.out], rfl⟩
            · have hd := Lib.hid (show decide (k < n2) = false by have := HN2.out; simp; omega)
              go_wp2_with fail
              go_meet
              exact ⟨by rw [hd.out], rfl⟩
          case rest =>
            obtain ⟨rfl, rfl⟩ := hcut
            by_cases hlt : k < n2
            · rw [decide_eq_true hlt]
              have hkl : k < lp.length := by have := HN2.out; omega
              obtain ⟨b, o, rfl, hc⟩ := (HP.out.keep VK.out.gr (fun _ _ h => h)).int k hkl
              have hA2 := addAll_snoc (lp.take k) lp[k]
              have hG2 := noneIn_snoc A (lp.take k) lp[k]
              rw [← List.take_succ_eq_append_getElem hkl] at hA2 hG2
              obtain ⟨P, hP⟩ : ∃ P, P = addAll (lp.take k) := ⟨_, rfl⟩
              rw [← hP] at hA2 VK
              rw [← HGG.out] at hG2
              obtain ⟨xv, hxv⟩ : ∃ x, x = lp[k] := ⟨_, rfl⟩
              rw [← hxv] at hA2 hG2 hc
              obtain ⟨bv, hbv, hnd, hb0, hb7⟩ := nd_parts xv
              rw [hnd] at hA2 hG2
              have HA2 := Lib.hid hA2
              have HG2 := Lib.hid hG2
              have y3 := (Bx.of_block VK.out.blk) 3 _ rfl
              have y4 := (Bx.of_block VK.out.blk) 4 _ rfl
              have hkz : (k : Int) < (lp.length : Int) := by omega
              have l1 := VK.out.at_.pas.le
              have l2 := VK.out.at_.pas.max
              have l5 := VK.out.at_.act.le
              have l6 := VK.out.at_.act.max
              clear hP hA2 hG2 HGG hnd hxv hk
              go_wp2_with fail
              refine (setAdd3_any y.pa y.pc P 64 (1 + bv) wr VK.out.at_.pas VK.out.at_.good.pas).mono ?_
              rintro e w5 ⟨a', cap', rfl, hs', f5, hfr'⟩
              obtain ⟨P', hP'⟩ : ∃ P', P' = sAdd P 64 (1 + bv) := ⟨_, rfl⟩
              rw [← hP'] at hs' hfr' HA2 ⊢
              have K5 : VwFrom wr ⟨0, A, 64, P, 64⟩ y ⟨0, A, 64, P', 64⟩ ⟨y.aa, y.ac, a', cap'⟩ := ⟨fun q h => .inl ⟨h, rfl⟩, hfr'⟩
              have H5 := Lib.hid (show VwAt w5 ⟨0, A, 64, P', 64⟩ ⟨y.aa, y.ac, a', cap'⟩ from ⟨(VK.out.at_.gr f5).act, hs', ⟨VK.out.at_.good.act, by rw [hP']; exact VK.out.at_.good.pas.add _⟩⟩)
              have AP5 := Lib.hid (VK.out.apart.next K5 (fun k h => by omega))
              have B5 := Lib.hid (blk_keep f5 VK.out.blk (fun h => h))
              have G5 := Lib.hid (Gr.trans VK.out.gr f5)
              have l3 := hs'.le
              have l4 := hs'.max
              clear K5 hs' hfr' hP' f5 VK y3 y4 hc
              go_wp2_with (refine wpList_storeB (o := 3) (vs := #[.slice a' P'.length cap', .int .i64 64]) B5.out (by rfl) 27 _ _ (by rfl) (by rfl) (by rfl) (Nat.le_of_ble_eq_true rfl) Try.infoSet2 (by rw [← Array.all_toList]; rfl) ?_)
              intro w6 f6 b6
              have V6 : Hid (VarV W q w6 ⟨0, A, 64, P', 64⟩ ⟨y.aa, y.ac, a', cap'⟩) := Lib.hid ⟨b6, H5.out.keepA f6 AP5.out, AP5.out, fr_new G5.out f6 hWq⟩
              have y1 := (Bx.of_block V6.out.blk) 1 _ rfl
              have y2 := (Bx.of_block V6.out.blk) 2 _ rfl
              clear f6 b6 H5 AP5 B5 G5
              obtain ⟨hb, hhb⟩ : ∃ b, b = has A (1 + bv) := ⟨_, rfl⟩
              rw [← hhb] at HG2
              have CH := Lib.hid (setHas_any y.aa y.ac A 64 (1 + bv) w6 V6.out.at_.act V6.out.at_.good.act)
              rw [← hhb] at CH
              clear hhb
              cases g
              case false =>
                go_wp2_with fail
                go_roundw
                case rel => exact ⟨k + 1, _, by go_num, hlt, by rw [HG2.out]; rfl, by rw [HA2.out]; exact V6.out⟩
                case measure => simp [intOf]; omega
              case true =>
                go_wp2_with fail
                refine CH.out.mono ?_
                rintro e w7 ⟨rfl, f7⟩
                have V7 := Lib.hid (V6.out.keep f7)
                clear f7 V6 CH y1 y2
                go_wp2_with fail
                go_roundw
                case rel => exact ⟨k + 1, _, by go_num, hlt, by rw [HG2.out]; simp, by rw [HA2.out]; exact V7.out⟩
                case measure => simp [intOf]; omega
            · rw [decide_eq_false hlt]
              have hk20 : (lp.take k).length ≤ 20 := by rw [List.length_take]; have := HN2.out; omega
              obtain ⟨P, hP⟩ : ∃ P, P = addAll (lp.take k) := ⟨_, rfl⟩
              rw [← hP] at VK
              obtain ⟨bv, hbv, hnd, hb0, hb7⟩ := nd_parts self
              have hlaw := sane_law A P (lp.take k) (1 + bv) hP hk20
              rw [← HGG.out] at hlaw
              obtain ⟨ha, hha⟩ : ∃ b, b = has A (1 + bv) := ⟨_, rfl⟩
              obtain ⟨hp, hhp⟩ : ∃ b, b = has P (1 + bv) := ⟨_, rfl⟩
              obtain ⟨sn, hsn⟩ : ∃ b, b = vSane ⟨1 + bv, A, 64, P, 64⟩ := ⟨_, rfl⟩
              rw [← hha, ← hhp, ← hsn] at hlaw
              have l1 := VK.out.at_.pas.le
              have l2 := VK.out.at_.pas.max
              have l5 := VK.out.at_.act.le
              have l6 := VK.out.at_.act.max
              have y0 := (Bx.of_block VK.out.blk) 0 _ rfl
              have z0 := Lib.frozen_of_heap VK.out.blk 0
              have HLAW := Lib.hid hlaw
              clear hlaw hnd hP HGG hk20 hlt hk
              go_upto_region 16 with fail
              obtain ⟨w4, hw4⟩ : ∃ w4, w4 = World.setCell wr ⟨q, 0, none⟩ (.int .i64 (1 + bv)) := ⟨_, rfl⟩
              rw [← hw4]
              have f4 : Fr (fun k => k = q) wr w4 := by rw [hw4]; exact (Fr.refl (fun k => k = q) wr).setCell (p := ⟨q, 0, none⟩) (.inl rfl) _
              have b4 : w4.heap[q]? = some (.cells ((⟨1 + bv, A, 64, P, 64⟩ : Vw).arr y) 29 (0, 0)) := by rw [hw4]; exact blk_set1 VK.out.blk 0 _
              have V4 : Hid (VarV W q w4 ⟨1 + bv, A, 64, P, 64⟩ y) := Lib.hid ⟨b4, (by have h := VK.out.at_.keepA f4 VK.out.apart; exact ⟨h.act, h.pas, ⟨h.good.act, h.good.pas⟩⟩), ⟨VK.out.apart.1, VK.out.apart.2⟩, fr_new VK.out.gr f4 hWq⟩
              clear hw4 f4 b4 VK y0 z0
              have CA := Lib.hid (fun w (f : Gr w4 w) => setHas_any y.aa y.ac A 64 (1 + bv) w (V4.out.at_.gr f).act V4.out.at_.good.act)
              have CP := Lib.hid (fun w (f : Gr w4 w) => setHas_any y.pa y.pc P 64 (1 + bv) w (V4.out.at_.gr f).pas V4.out.at_.good.pas)
              have CS := Lib.hid (fun w (f : Gr w4 w) => viewSane_any ⟨1 + bv, A, 64, P, 64⟩ y w (V4.out.at_.gr f))
              rw [← hha] at CA
              rw [← hhp] at CP
              rw [← hsn] at CS
              clear hha hhp hsn
              have y0 := (Bx.of_block V4.out.blk) 0 _ rfl
              have y1 := (Bx.of_block V4.out.blk) 1 _ rfl
              have y2 := (Bx.of_block V4.out.blk) 2 _ rfl
              have y3 := (Bx.of_block V4.out.blk) 3 _ rfl
              have y4 := (Bx.of_block V4.out.blk) 4 _ rfl
              cases g
              case false =>
                have hl : (sn == false) = true := by have := HLAW.out; simpa using this
                have B := Lib.hid (blk_keep (Fr.refl (fun _ => False) _) V4.out.blk (fun h => h))
                clear y0 y1 y2 y3 y4 CA CP HLAW
                go_upto_region 17 with fail
                refine wp_region_lit ?_
                refine wpList_load_mid (by rfl) 29 _ (by rfl) q 0 (by rfl) (Array.toList ((⟨1 + bv, A, 64, P, 64⟩ : Vw).arr y)) _ (blk_range B.out) Try.underlying29 rfl Try.infoView ?_
                go_wp2_with fail
                refine (CS.out w4 (Fr.refl _ _)).mono ?_
                rintro e w9 ⟨rfl, f9⟩
                have F9 := Lib.hid (Gr.trans V4.out.gr f9)
                clear f9 CS B V4
                go_wp2_with fail
                go_ret
                exact ⟨rfl, F9.out⟩
              case true =>
                go_wp2_with fail
                refine (CA.out w4 (Fr.refl _ _)).mono ?_
                rintro e w5 ⟨rfl, f5⟩
                have F5 := Lib.hid f5
                have y0 := f5.cell y0 (fun h => h)
                have y3 := f5.cell y3 (fun h => h)
                have y4 := f5.cell y4 (fun h => h)
                clear f5
                cases ha
                case true =>
                  have hl : (sn == false) = true := by have := HLAW.out; simpa using this
                  have B := Lib.hid (blk_keep F5.out V4.out.blk (fun h => h))
                  clear y0 y1 y2 y3 y4 CA CP HLAW
                  go_upto_region 17 with fail
                  refine wp_region_lit ?_
                  refine wpList_load_mid (by rfl) 29 _ (by rfl) q 0 (by rfl) (Array.toList ((⟨1 + bv, A, 64, P, 64⟩ : Vw).arr y)) _ (blk_range B.out) Try.underlying29 rfl Try.infoView ?_
                  go_wp2_with fail
                  refine (CS.out w5 F5.out).mono ?_
                  rintro e w9 ⟨rfl, f9⟩
                  have F9 := Lib.hid (Gr.trans V4.out.gr (Gr.trans F5.out f9))
                  clear f9 CS B V4
                  go_wp2_with fail
                  go_ret
                  exact ⟨rfl, F9.out⟩
                case false =>
                  go_wp2_with fail
                  refine (CP.out w5 F5.out).mono ?_
                  rintro e w6 ⟨rfl, f6⟩
                  have F6 := Lib.hid (Gr.trans F5.out f6)
                  clear f6
                  have hl : (sn == (!hp)) = true := by have := HLAW.out; simpa using this
                  have B := Lib.hid (blk_keep F6.out V4.out.blk (fun h => h))
                  clear y0 y1 y2 y3 y4 CA CP HLAW
                  go_upto_region 17 with fail
                  refine wp_region_lit ?_
                  refine wpList_load_mid (by rfl) 29 _ (by rfl) q 0 (by rfl) (Array.toList ((⟨1 + bv, A, 64, P, 64⟩ : Vw).arr y)) _ (blk_range B.out) Try.underlying29 rfl Try.infoView ?_
                  go_wp2_with fail
                  refine (CS.out w6 F6.out).mono ?_
                  rintro e w9 ⟨rfl, f9⟩
                  have F9 := Lib.hid (Gr.trans V4.out.gr (Gr.trans F6.out f9))
                  clear f9 CS B V4
                  go_wp2_with fail
                  go_ret
                  exact ⟨rfl, F9.out⟩
end Go.Proofs.Ytdpnkikaciigoaa
