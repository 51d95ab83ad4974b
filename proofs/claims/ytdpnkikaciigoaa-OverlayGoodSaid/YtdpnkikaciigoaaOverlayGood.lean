/-
  The walk of OverlayGood (printed by gen_ogood.py).
-/
import Derived.Test.YtdpnkikaciigoaaOvGood
import Derived.Deep.CutRange
import Derived.Deep.CutBlock
namespace Go.Proofs.Ytdpnkikaciigoaa
open Go.RowKit Go.Proofs

theorem oFirst_fill (self : Int) (c : Cf) (hg : cGood c = true) : (oFill (oNew self c) []).2.1 = (match kept (fun n => n == self) c.seeds with | [] => [] | n :: _ => [⟨n, 1, false⟩]) ∧ (oFill (oNew self c) []).1.h.v.act = [] := by
  have hg2 := hg
  unfold cGood cIn at hg2
  simp only [Bool.and_eq_true, decide_eq_true_eq, Bool.not_eq_true'] at hg2
  have hF : vaFull (oNew self c).h.v = false := by
    unfold vaFull oNew hNew
    simp
    omega
  have hO : oneV [] (oNew self c).h.v.pas = (0, false, []) := rfl
  have hA : (oNew self c).h.v.act = [] := rfl
  have hK : (oNew self c).h.asked = [] := rfl
  have hS : (oNew self c).c.seeds = kept (fun n => n == self) c.seeds := rfl
  unfold oFill
  rw [if_neg (by rw [hF]; simp), if_neg (by rw [hK]; simp), if_neg (by rw [hO]; simp), if_neg (by rw [hA]; simp)]
  simp only
  unfold oJoin
  cases hk : kept (fun n => n == self) c.seeds with
  | nil =>
    rw [if_pos (by rw [hS]; exact hk)]
    exact ⟨rfl, rfl⟩
  | cons n t =>
    rw [if_neg (by rw [hS, hk]; simp)]
    have hm : n ∈ kept (fun n => n == self) c.seeds := by rw [hk]; exact List.mem_cons_self
    have hm2 := List.mem_filter.1 hm
    have hne : (n == self) = false := by simpa using hm2.2
    have hn1 : 1 ≤ n ∧ n ≤ 65535 := by
      have h9 := hg2.2
      rw [List.any_eq_false] at h9
      have := h9 n hm2.1
      simp at this
      omega
    have hd : oSeed (oNew self c) = n := by
      unfold oSeed
      rw [hS, hk]
      have : (oNew self c).seed = 0 := rfl
      rw [this]
      simp
    have hAs : ∀ o : Ov, o.h = (oNew self c).h → hAsks o.h n = true := by
      intro o ho
      rw [ho]
      unfold hAsks
      have e1 : (oNew self c).h.v.self = self := rfl
      rw [e1, hne, hA, hK]
      unfold has sAddOk
      simp
      omega
    rw [hd]
    unfold oAsk hAsk
    rw [if_pos (hAs _ rfl)]
    exact ⟨rfl, rfl⟩
theorem oFirst (self : Int) (c : Cf) (hg : cGood c = true) : (oTick (oNew self c) []).2.1 = (match kept (fun n => n == self) c.seeds with | [] => [] | n :: _ => [⟨n, 1, 0, 0, false, []⟩]) := by
  have h := oFirst_fill self c hg
  unfold oTick
  have hst : ∀ (v : Vw) (a b l : Int) (ds : List Int), v.act = [] → (oStart v a b l ds).1 = [] := fun v a b l ds hv => by unfold oStart; rw [if_pos hv]
  split
  · simp only
    rw [hst _ _ _ _ _ h.2, h.1]
    cases kept (fun n => n == self) c.seeds <;> rfl
  · simp only
    rw [h.1]
    cases kept (fun n => n == self) c.seeds <;> rfl
def firstK (self : Int) (l : List Int) : Int := (kept (fun n => n == self) l).headD 0
theorem firstK_skip (self : Int) (l : List Int) (k : Nat) (h : k < l.length) (e : l[k] = self) : firstK self (l.drop k) = firstK self (l.drop (k + 1)) := by
  unfold firstK
  rw [List.drop_eq_getElem_cons h]
  unfold kept
  rw [List.filter_cons_of_neg (by simp [e])]
theorem firstK_take (self : Int) (l : List Int) (k : Nat) (h : k < l.length) (e : l[k] ≠ self) : firstK self (l.drop k) = l[k] := by
  unfold firstK
  rw [List.drop_eq_getElem_cons h]
  unfold kept
  rw [List.filter_cons_of_pos (by simp [e])]
  rfl
set_option maxHeartbeats 16000000 in
set_option maxRecDepth 100000 in
theorem overlayGood_walk (a0 a1 a2 a3 a4 a5 a6 self : Int) (sa : Option Addr) (cs : Nat) (ls : List Int) (W : World) (hc : SlA W sa ls.length cs (ints ls)) :
    Calls Try.prog 10 #[.agg #[.int .i64 a0, .int .i64 a1, .int .i64 a2, .int .i64 a3, .int .i64 a4, .int .i64 a5, .int .i64 a6], .int .i64 self, .slice sa ls.length cs] W fun e w' => e = .returned (.bool true) ∧ Gr W w' := by
  obtain ⟨iz, hz1, hz2, hzs⟩ := info_pair Try.zeroConfig
  obtain ⟨w0, hw0⟩ : ∃ w0, w0 = W.alloc (.cells #[.int .i64 a0, .int .i64 a1, .int .i64 a2, .int .i64 a3, .int .i64 a4, .int .i64 a5, .int .i64 a6] 97) := ⟨_, rfl⟩
  have f0 : Gr W w0 := by rw [hw0]; exact (Fr.refl _ _).alloc _
  have X0 := Lib.hid (show w0.heap[W.heap.size]? = some (.cells #[.int .i64 a0, .int .i64 a1, .int .i64 a2, .int .i64 a3, .int .i64 a4, .int .i64 a5, .int .i64 a6] 97 (0, 0)) by rw [hw0, heap_alloc_if, if_pos rfl])
  have F0 := Lib.hid f0
  have HW0 := Lib.hid hw0
  have S0 := Lib.hid (speaks13_any w0)
  have e3 := hc.le
  have e4 := hc.max
  obtain ⟨l', hl1, hl2, hl3, hl4, hl5⟩ := cut_list (Value.int .i64) W sa cs ls 70 70 rfl hc
  have e7 := hl3.le
  have HC := Lib.hid hl3
  clear hw0 f0 hc hl2 hl3 hl4
  obtain ⟨c, c0, c1, c2, c3, c4, c5, c6, c7⟩ : ∃ c : Cf, c.active = a0 ∧ c.passive = a1 ∧ c.far = a2 ∧ c.near = a3 ∧ c.mixA = a4 ∧ c.mixP = a5 ∧ c.every = a6 ∧ c.seeds = l' := ⟨⟨a0, a1, a2, a3, a4, a5, a6, l'⟩, rfl, rfl, rfl, rfl, rfl, rfl, rfl, rfl⟩
  subst c0 c1 c2 c3 c4 c5 c6 c7
  go_enter Try.func10, Try.ntmps10
  go_upto_region 1 with fail
  rw [← HW0.out]
  clear HW0
  go_wp2_with fail
  refine S0.out.mono ?_
  rintro e w1 ⟨rfl, f1⟩
  have F1 := Lib.hid (Gr.trans F0.out f1)
  have X1 := Lib.hid (blk_keep f1 X0.out (fun h => h))
  clear f1 X0 F0 S0
  have y := Bx.of_block X1.out
  have y0 := y 0 _ rfl
  have y1 := y 1 _ rfl
  have y2 := y 2 _ rfl
  have y3 := y 3 _ rfl
  have y4 := y 4 _ rfl
  have y5 := y 5 _ rfl
  have y6 := y 6 _ rfl
  clear y
  go_upto_region 4 with fail
  go_wp2_with (refine wpList_bldCf (by rfl) (by rfl) (by rfl) (by rfl) (by rfl) (by rfl) (by rfl) (by rfl) ?_; refine wpList_fresh (vs := c.arr sa cs) hz1 hz2 Try.infoConfig (by rfl) (by rw [← Array.all_toList]; rfl) (by rfl) (by rfl) ?_)
  intro w3 f3 b3 g3
  obtain ⟨bq, hbq⟩ : ∃ b, b = w1.heap.size := ⟨_, rfl⟩
  rw [← hbq] at b3 g3 ⊢
  have F3 := Lib.hid (Gr.trans F1.out f3)
  have B3 := Lib.hid b3
  have HS := Lib.hid (HC.out.keep F3.out (fun _ _ h => h))
  have y := Bx.of_block (blk_keep f3 X1.out (fun h => h))
  have z0 := y 0 _ rfl
  have z1 := y 1 _ rfl
  have z2 := y 2 _ rfl
  have z3 := y 3 _ rfl
  have z4 := y 4 _ rfl
  have z5 := y 5 _ rfl
  have z6 := y 6 _ rfl
  have CG := Lib.hid (refGood13_any c sa cs w3 HS.out)
  clear y f3 b3 HC X1 F1 y0 y1 y2 y3 y4 y5 y6 hbq
  go_wp2_with fail
  refine CG.out.mono ?_
  rintro e _ ⟨rfl, rfl⟩
  have ST3 := Lib.hid (show Sta w3 (fun _ => True) (.pointer none) [] [] [] [⟨sa, c.seeds.length, cs, ints c.seeds⟩] w3 from Sta.initR (by
    intro r hr
    rcases List.mem_cons.1 hr with rfl | hr
    · exact HS.out
    exact nomatch hr))
  have CN := Lib.hid (fun w h => ovNew_any self c sa cs (.pointer none) [] w3 (fun _ => True) [] [] [] w h)
  have CG2 := Lib.hid (fun w h => ovGood_any c sa cs w h)
  clear CG z0 z1 z2 z3 z4 z5 z6
  go_wp2_with (refine wpList_load_mid (by rfl) 99 _ (by rfl) bq 0 (by rfl) (Array.toList (c.arr sa cs)) _ (blk_range B3.out) Try.underlying99 rfl Try.infoConfig ?_)
  refine (CN.out _ ST3.out).mono ?_
  rintro e w4 hend
  clear CN
  unfold NewEnd at hend
  obtain ⟨gg, hgg⟩ : ∃ b, b = cGood c := ⟨_, rfl⟩
  rw [← hgg] at hend CG2 ⊢
  have HG := Lib.hid hgg
  clear hgg
  have hin : cIn self 1 65535 = (decide (1 ≤ self) && decide (self ≤ 65535)) := rfl
  rw [hin] at hend
  clear hin
  have LD : ∀ w, Hid (Gr w3 w) → Hid (w.heap[bq]? = some (.cells (c.arr sa cs) 99 (0, 0))) := fun w f => Lib.hid (blk_keep f.out B3.out (fun h => h))
  cases gg
  case false =>
    simp only [Bool.false_and, Bool.false_eq_true, if_false] at hend
    obtain ⟨rfl, hst⟩ := hend
    have F4 := Lib.hid (show Gr w3 w4 from hst.fr.mono (fun k _ h => absurd h (pn_no k)))
    have B4 := LD w4 F4
    have S4 := Lib.hid (HS.out.keep F4.out (fun _ _ h => h))
    clear hst ST3 LD
    go_wp2_with (refine wpList_load_mid (by rfl) 99 _ (by rfl) bq 0 (by rfl) (Array.toList (c.arr sa cs)) _ (blk_range B4.out) Try.underlying99 rfl Try.infoConfig ?_)
    refine (CG2.out _ S4.out).mono ?_
    rintro e w5 ⟨rfl, f5⟩
    have F5 := Lib.hid (Gr.trans (Gr.trans F3.out F4.out) f5)
    clear f5 CG2
    go_wp2_with fail
    go_ret
    exact ⟨rfl, F5.out⟩
  case true =>
    simp only [Bool.true_and] at hend
    by_cases s1 : 1 ≤ self
    rotate_left
    · have d1 : decide (1 ≤ self) = false := decide_eq_false s1
      rw [d1] at hend
      simp only [Bool.false_and, Bool.false_eq_true, if_false] at hend
      obtain ⟨rfl, hst⟩ := hend
      clear s1
      have F4 := Lib.hid (show Gr w3 w4 from hst.fr.mono (fun k _ h => absurd h (pn_no k)))
      have B4 := LD w4 F4
      have S4 := Lib.hid (HS.out.keep F4.out (fun _ _ h => h))
      clear hst ST3 LD
      go_wp2_with (refine wpList_load_mid (by rfl) 99 _ (by rfl) bq 0 (by rfl) (Array.toList (c.arr sa cs)) _ (blk_range B4.out) Try.underlying99 rfl Try.infoConfig ?_)
      refine (CG2.out _ S4.out).mono ?_
      rintro e w5 ⟨rfl, f5⟩
      have F5 := Lib.hid (Gr.trans (Gr.trans F3.out F4.out) f5)
      clear f5 CG2
      go_wp2_with fail
      go_ret
      exact ⟨rfl, F5.out⟩
    have d1 : decide (1 ≤ self) = true := decide_eq_true s1
    rw [d1] at hend
    by_cases s2 : self ≤ 65535
    rotate_left
    · have d2 : decide (self ≤ 65535) = false := decide_eq_false s2
      rw [d2] at hend
      simp only [Bool.and_false, Bool.false_eq_true, if_false] at hend
      obtain ⟨rfl, hst⟩ := hend
      clear s1 s2
      have F4 := Lib.hid (show Gr w3 w4 from hst.fr.mono (fun k _ h => absurd h (pn_no k)))
      have B4 := LD w4 F4
      have S4 := Lib.hid (HS.out.keep F4.out (fun _ _ h => h))
      clear hst ST3 LD
      go_wp2_with (refine wpList_load_mid (by rfl) 99 _ (by rfl) bq 0 (by rfl) (Array.toList (c.arr sa cs)) _ (blk_range B4.out) Try.underlying99 rfl Try.infoConfig ?_)
      refine (CG2.out _ S4.out).mono ?_
      rintro e w5 ⟨rfl, f5⟩
      have F5 := Lib.hid (Gr.trans (Gr.trans F3.out F4.out) f5)
      clear f5 CG2
      go_wp2_with fail
      go_ret
      exact ⟨rfl, F5.out⟩
    have d2 : decide (self ≤ 65535) = true := decide_eq_true s2
    rw [d2] at hend
    simp only [Bool.and_self, if_true] at hend
    obtain ⟨bo, xo, rfl, hst⟩ := hend
    have hFi := oFirst self c HG.out.symm
    have CT := Lib.hid (fun w h => ovTick_any (oNew self c) xo (.pointer none) [] w3 (fun _ => True) [] [] [] bo w h (oNew_ok self c HG.out.symm))
    rw [hFi] at CT
    unfold OEndM at CT
    obtain ⟨o', ho'⟩ : ∃ o', o' = (oTick (oNew self c) []).1 := ⟨_, rfl⟩
    obtain ⟨ds', hds'⟩ : ∃ d, d = (oTick (oNew self c) []).2.2 := ⟨_, rfl⟩
    rw [← ho', ← hds'] at CT
    have hpos : ∀ n ∈ c.seeds, n ≠ 0 := by
      have hg2 := HG.out.symm
      unfold cGood cIn at hg2
      simp only [Bool.and_eq_true, decide_eq_true_eq, Bool.not_eq_true'] at hg2
      intro n hn h0
      have h9 := hg2.2
      rw [List.any_eq_false] at h9
      have := h9 n hn
      rw [h0] at this
      simp at this
    have HP := Lib.hid hpos
    have ST4 := Lib.hid hst
    have F4 := Lib.hid (show Gr w3 w4 from hst.fr.mono (fun k _ h => absurd h (pn_no k)))
    have B4 := LD w4 F4
    have S4 := Lib.hid (HS.out.keep F4.out (fun _ _ h => h))
    clear hst ST3 LD hFi ho' hds' hpos HG s1 s2
    go_wp2_with (refine wpList_load_mid (by rfl) 99 _ (by rfl) bq 0 (by rfl) (Array.toList (c.arr sa cs)) _ (blk_range B4.out) Try.underlying99 rfl Try.infoConfig ?_)
    refine (CG2.out _ S4.out).mono ?_
    rintro e w5 ⟨rfl, f5⟩
    have ST5 := Lib.hid (ST4.out.gr f5)
    have S5 := Lib.hid (S4.out.keep f5 (fun _ _ h => h))
    clear f5 CG2 F4 B4 S4 ST4 B3 HS
    go_wp2_with fail
    go_loopw [11, 12] (fun av kv wr => ∃ k : Nat, av = .int .i64 (firstK self (c.seeds.drop k)) ∧ kv = .int .i64 ((k : Int) - 1) ∧ k ≤ c.seeds.length ∧ w5 = wr) (fun _ kv _ => (intOf kv + 1).toNat)
    case atStart => exact ⟨c.seeds.length, by unfold firstK; rw [List.drop_length]; rfl, rfl, Nat.le_refl _, rfl⟩
    case round =>
      obtain ⟨k, rfl, rfl, hk, rfl⟩ := hrel
      cases k with
      | zero =>
        have e9 : (((0 : Nat) : Int) - 1) = -1 := rfl
        rw [e9, List.drop_zero]
        clear e9
        go_wp2_with fail
        refine (CT.out _ ST5.out).mono ?_
        rintro e w6 ⟨x', ov, l, hl, rfl, hst⟩
        have F6 := Lib.hid (Gr.trans F3.out (show Gr w3 w6 from hst.fr.mono (fun k _ h => absurd h (pn_no k))))
        unfold firstK
        cases hkp : kept (fun n => n == self) c.seeds with
        | nil =>
          rw [hkp] at hl
          have hl0 : l = [] := List.map_eq_nil_iff.1 hl
          subst hl0
          obtain ⟨a', c', rfl, h9, -⟩ := SlA.of_own (hst.ownAt 0 rfl)
          clear hkp hl hst CT ST5 S5 h9
          go_wp2_with fail
          go_ret
          exact ⟨rfl, F6.out⟩
        | cons n t =>
          rw [hkp] at hl
          have hn0 : (n == 0) = false := by
            have hm : n ∈ kept (fun n => n == self) c.seeds := by rw [hkp]; exact List.mem_cons_self
            have := HP.out n (List.mem_filter.1 hm).1
            simpa using this
          have hlen := congrArg List.length hl
          simp only [List.length_map, List.length_cons, List.length_nil] at hlen
          obtain ⟨a, rfl⟩ : ∃ a : Om, l = [a] := by
            match l, hlen with
            | [a], _ => exact ⟨a, rfl⟩
          have ham : a.m = ⟨n, 1, 0, 0, false, []⟩ := by simpa using hl
          obtain ⟨m, na, nc⟩ := a
          simp only at ham
          subst ham
          obtain ⟨g, cg, rfl⟩ := hst.ownForm 0 rfl (by simp)
          have g0 := (hst.ownCell 0 rfl 0 rfl).1
          have g1 := (hst.ownCell 0 rfl 1 rfl).1
          have m1 : 1 ≤ cg := by
            obtain ⟨a', c', e9, h9, -⟩ := SlA.of_own (hst.ownAt 0 rfl)
            injection e9 with _ _ e9
            have := h9.le
            rw [← e9] at this
            simpa using this
          clear hkp hl hst CT ST5 S5 hlen
          go_wp2_with fail
          go_ret
          exact ⟨rfl, F6.out⟩
      | succ k =>
        have e9 : (((k + 1 : Nat) : Int) - 1) = (k : Int) := by omega
        rw [e9]
        clear e9
        have hk2 : k < c.seeds.length := hk
        obtain ⟨b, o, e9, hc⟩ := S5.out.int k hk2
        have HT := Lib.hid (firstK_take self c.seeds k hk2)
        have HK := Lib.hid (firstK_skip self c.seeds k hk2)
        subst e9
        generalize c.seeds[k] = z at hc HK HT
        generalize firstK self (c.seeds.drop (k + 1)) = f1 at HK ⊢
        by_cases hz : z = self
        · have d3 : (z == self) = true := by simp [hz]
          have HE := Lib.hid (HK.out hz)
          clear hz HK HT
          go_wp2_with fail
          go_roundw
          case rel => exact ⟨k, by rw [HE.out], rfl, by omega, trivial⟩
          case measure => simp only [intOf]; omega
        · have d3 : (z == self) = false := by simpa using hz
          have HE := Lib.hid (HT.out hz)
          clear hz HK HT
          go_wp2_with fail
          go_roundw
          case rel => exact ⟨k, by rw [HE.out], rfl, by omega, trivial⟩
          case measure => simp only [intOf]; omega
end Go.Proofs.Ytdpnkikaciigoaa
