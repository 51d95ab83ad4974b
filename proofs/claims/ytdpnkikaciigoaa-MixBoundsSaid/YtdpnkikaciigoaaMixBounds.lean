/-
  The walk of MixBounds (printed by gen_mixbounds.py).
-/
import Derived.Test.YtdpnkikaciigoaaMixMade
import Derived.Test.YtdpnkikaciigoaaMixSpk
import Derived.Test.YtdpnkikaciigoaaMixKnow
namespace Go.Proofs.Ytdpnkikaciigoaa
open Go.RowKit Go.Proofs

theorem vKnow_act (v : Vw) (n : Int) (ds : List Int) : (vKnow v n ds).1.act = v.act := by unfold vKnow; split <;> rfl
theorem vKnow_grows {v : Vw} (g : v.Good) (n : Int) {ds : List Int} (hd : ∀ x ∈ ds, 0 ≤ x ∧ x < 4294967296) : v.pas.length ≤ (vKnow v n ds).1.pas.length := by
  unfold vKnow
  split
  · rename_i hn
    obtain ⟨hr, h1, h2, h3⟩ := (vNew_iff v n).1 hn
    simp only
    split
    · rename_i hok
      have hnn : has (vRoom v ds).1 n = false := (has_no _ _).2 (fun h => h3 (vRoom_sub g ds h))
      rw [sAdd_len hok hnn]
      unfold vRoom
      split
      · rename_i hf
        have hm := oneV_mem hd hf.2
        have := sDrop_len g.pas.up ((has_iff _ _).2 hm.1)
        simp only
        omega
      · simp only; omega
    · exact Nat.le_refl _
  · exact Nat.le_refl _
theorem vKnow_range (v : Vw) (n : Int) {ds : List Int} (hd : ∀ x ∈ ds, 0 ≤ x ∧ x < 4294967296) : ∀ x ∈ (vKnow v n ds).2, 0 ≤ x ∧ x < 4294967296 := by
  unfold vKnow
  split
  · unfold vRoom
    simp only
    split
    · exact oneV_range hd
    · exact hd
  · exact hd
theorem kAll_facts : ∀ (l : List Int) (v : Vw) (ds : List Int), v.Good → (∀ x ∈ ds, 0 ≤ x ∧ x < 4294967296) → (kAll v l ds).1.act = v.act ∧ v.pas.length ≤ (kAll v l ds).1.pas.length ∧ (kAll v l ds).1.pm = v.pm ∧ (kAll v l ds).1.am = v.am
  | [], _, _, _, _ => ⟨rfl, Nat.le_refl _, rfl, rfl⟩
  | n :: r, v, ds, g, hd => by
    have e : kAll v (n :: r) ds = kAll (vKnow v n ds).1 r (vKnow v n ds).2 := rfl
    obtain ⟨h1, h2, h3, h4⟩ := kAll_facts r (vKnow v n ds).1 (vKnow v n ds).2 (vKnow_good g n ds) (vKnow_range v n hd)
    have h5 := vKnow_grows g n hd
    have h6 := vKnow_self v n ds
    rw [e]
    exact ⟨h1.trans (vKnow_act v n ds), by omega, h3.trans h6.2.2, h4.trans h6.2.1⟩

/-- a sample: the node itself, then A of the active ones, then B of the passive ones, no node twice -/
structure SmpL (v : Vw) (T A B : List Int) : Prop where
  eq : T = v.self :: (A ++ B)
  act : ∀ x ∈ A, x ∈ v.act
  pas : ∀ x ∈ B, x ∈ v.pas
  nod : (A ++ B).Nodup
theorem smp_of {v : Vw} (g : v.Good) (s : v.Sane) (h5 : v.am = 5) (h6 : v.pm = 6) {sa sp : Int} {ds : List Int} (hsa : 0 ≤ sa ∧ sa < 9) (hsp : 0 ≤ sp ∧ sp < 9) (hd : ∀ x ∈ ds, 0 ≤ x ∧ x < 4294967296) :
    ∃ A B, SmpL v (mixS v sa sp ds).1 A B ∧ min sa (v.act.length : Int) = (A.length : Int) ∧ min sp (v.pas.length : Int) = (B.length : Int) ∧ A.length ≤ 5 ∧ B.length ≤ 6 := by
  obtain ⟨A, hA⟩ : ∃ A, A = (someS v.act.length ds v.act sa).1 := ⟨_, rfl⟩
  obtain ⟨d2, hd2⟩ : ∃ d, d = (someS v.act.length ds v.act sa).2 := ⟨_, rfl⟩
  obtain ⟨B, hB⟩ : ∃ B, B = (someS v.pas.length d2 v.pas sp).1 := ⟨_, rfl⟩
  have hr2 : ∀ x ∈ d2, 0 ≤ x ∧ x < 4294967296 := by rw [hd2]; exact (someS_range hd).1
  have lA : A.length = min sa.toNat v.act.length := by rw [hA]; exact someS_length _ _ _ _ (Nat.le_refl _) hd
  have lB : B.length = min sp.toNat v.pas.length := by rw [hB]; exact someS_length _ _ _ _ (Nat.le_refl _) hr2
  have f5 := g.act.fit
  have f6 := g.pas.fit
  have hup : ∀ {l : List Int}, l.Pairwise (· < ·) → l.Nodup := fun h => h.imp (fun h e => by omega)
  have nA : A.Nodup := by rw [hA]; exact someS_nodup _ _ _ _ (hup g.act.up)
  have nB : B.Nodup := by rw [hB]; exact someS_nodup _ _ _ _ (hup g.pas.up)
  have sA : ∀ x ∈ A, x ∈ v.act := by rw [hA]; exact someS_sub _ _ _ _
  have sB : ∀ x ∈ B, x ∈ v.pas := by rw [hB]; exact someS_sub _ _ _ _
  refine ⟨A, B, ⟨?_, sA, sB, ?_⟩, by omega, by omega, by omega, by omega⟩
  · unfold mixS
    rw [← hA, ← hd2, ← hB]
    exact List.take_of_length_le (by simp; omega)
  · rw [List.nodup_append]
    exact ⟨nA, nB, fun x hx y hy e => s.apart x (sA x hx) (e ▸ sB y hy)⟩
theorem SmpL.at_act {v : Vw} {T A B : List Int} (h : SmpL v T A B) {i : Nat} (h1 : 1 ≤ i) (h2 : i ≤ A.length) (hi : i < T.length) : T[i] ∈ v.act := by
  have e := h.eq
  subst e
  obtain ⟨k, rfl⟩ : ∃ k, i = k + 1 := ⟨i - 1, by omega⟩
  rw [List.getElem_cons_succ, List.getElem_append_left (by omega)]
  exact h.act _ (List.getElem_mem _)
theorem SmpL.at_pas {v : Vw} {T A B : List Int} (h : SmpL v T A B) {i : Nat} (h2 : A.length < i) (hi : i < T.length) : T[i] ∈ v.pas := by
  have e := h.eq
  subst e
  obtain ⟨k, rfl⟩ : ∃ k, i = k + 1 := ⟨i - 1, by omega⟩
  rw [List.getElem_cons_succ, List.getElem_append_right (by omega)]
  exact h.pas _ (List.getElem_mem _)
theorem SmpL.ne {v : Vw} {T A B : List Int} (h : SmpL v T A B) {i k : Nat} (h1 : 1 ≤ k) (h2 : k < i) (hi : i < T.length) : T[k]'(by omega) ≠ T[i] := by
  have e := h.eq
  subst e
  obtain ⟨k', rfl⟩ : ∃ k', k = k' + 1 := ⟨k - 1, by omega⟩
  obtain ⟨i', rfl⟩ : ∃ i', i = i' + 1 := ⟨i - 1, by omega⟩
  rw [List.getElem_cons_succ, List.getElem_cons_succ]
  intro e
  simp only [List.length_cons] at hi
  exact List.pairwise_iff_getElem.1 h.nod k' i' (by omega) (by omega) (by omega) e
theorem tmod9 (x : Int) (h : 0 ≤ x) : ∃ z : Int, x.tmod 9 = z ∧ 0 ≤ z ∧ z < 9 := ⟨_, rfl, Int.tmod_nonneg _ h, Int.tmod_lt_of_pos _ (by omega)⟩

set_option maxHeartbeats 16000000 in
set_option maxRecDepth 100000 in
theorem mixBounds_walk (a0 : Option Addr) (c0 : Nat) (la : List Int) (a1 : Option Addr) (c1 : Nat) (lp : List Int) (a3 : Option Addr) (c3 : Nat) (ln : List Int) (s0 s1 : Int) (a2 : Option Addr) (c2 : Nat) (lc : List Int) (W : World) (h0 : SlA W a0 la.length c0 (ints la)) (h1 : SlA W a1 lp.length c1 (ints lp)) (h3 : SlA W a3 ln.length c3 (ints ln))
    (hs0 : 0 ≤ s0 ∧ s0 ≤ 255) (hs1 : 0 ≤ s1 ∧ s1 ≤ 255) (hc : SlA W a2 lc.length c2 (lc.map (Value.int .u32))) (hcr : ∀ x ∈ lc, 0 ≤ x ∧ x < 4294967296) (hb : lc.length * 4 ≤ 140737488355328) :
    Calls Try.prog 9 #[.agg #[.slice a0 la.length c0, .slice a1 lp.length c1, .slice a3 ln.length c3], .agg #[.int .u8 s0, .int .u8 s1], .slice a2 lc.length c2] W fun e w' => e = .returned (.bool true) ∧ Gr W w' := by
  obtain ⟨w0, hw0⟩ : ∃ w0, w0 = (W.alloc (.cells #[.slice a0 la.length c0, .slice a1 lp.length c1, .slice a3 ln.length c3] 94)).alloc (.cells #[.int .u8 s0, .int .u8 s1] 69) := ⟨_, rfl⟩
  have f0 : Gr W w0 := by rw [hw0]; exact ((Fr.refl _ _).alloc _).alloc _
  have X0 := Lib.hid (show w0.heap[W.heap.size]? = some (.cells #[.slice a0 la.length c0, .slice a1 lp.length c1, .slice a3 ln.length c3] 94 (0, 0)) by rw [hw0, heap_alloc_if, if_neg (by simp), heap_alloc_if, if_pos rfl])
  have Y0 := Lib.hid (show w0.heap[W.heap.size + 1]? = some (.cells #[.int .u8 s0, .int .u8 s1] 69 (0, 0)) by rw [hw0, heap_alloc_if, if_pos (by simp)])
  have hsz0 : W.heap.size + 2 ≤ w0.heap.size := by rw [hw0]; simp
  have F0 := Lib.hid f0
  have HW0 := Lib.hid hw0
  have S0 := Lib.hid (speaks12_any w0)
  have HA := Lib.hid h0
  have HP := Lib.hid h1
  have HN := Lib.hid h3
  have e1 := h0.le
  have e2 := h0.max
  have e3 := h1.le
  have e4 := h1.max
  have e5 := hc.le
  have e6 := hc.max
  have e7 := h3.le
  have e8 := h3.max
  have HC := Lib.hid hc
  have HR := Lib.hid hcr
  clear hw0 f0 h0 h1 h3 hc hcr
  go_enter Try.func9, Try.ntmps9
  go_upto_region 1 with fail
  rw [← HW0.out]
  clear HW0
  go_wp2_with fail
  refine S0.out.mono ?_
  rintro e w1 ⟨rfl, f1⟩
  have F1 := Lib.hid (Gr.trans F0.out f1)
  have X1 := Lib.hid (blk_keep f1 X0.out (fun h => h))
  have Y1 := Lib.hid (blk_keep f1 Y0.out (fun h => h))
  have x0 := (Bx.of_block X1.out) 0 _ rfl
  have x1 := (Bx.of_block X1.out) 1 _ rfl
  have hsz1 : W.heap.size + 2 ≤ w1.heap.size := by have := f1.size; omega
  clear f1 X0 Y0 F0 S0
  have CM := Lib.hid (made_any a0 c0 la a1 c1 lp none 0 [] w1 (HA.out.keep F1.out (fun _ _ h => h)) (HP.out.keep F1.out (fun _ _ h => h)) (SlA.nil _))
  unfold MadeEnd at CM
  clear HA HP
  go_wp2_with fail
  refine CM.out.mono ?_
  rintro e w4 ⟨v, y, u, z, rfl, hv, -, -, hg, hsn, hv1, hv2, hv3, f4⟩
  have HV := Lib.hid hv
  have HL := Lib.hid (And.intro hg (And.intro hsn (And.intro hv1 (And.intro hv2 hv3))))
  have F4 := Lib.hid (Gr.trans F1.out f4)
  have Y4 := Lib.hid (blk_keep f4 Y1.out (fun h => h))
  have X4 := Lib.hid (blk_keep f4 X1.out (fun h => h))
  have q5 := hv.act.le
  have q6 := hv.act.max
  have q7 := hv.pas.le
  have q8 := hv.pas.max
  have hsz4 : W.heap.size + 2 ≤ w4.heap.size := by have := f4.size; omega
  clear hv hg hsn hv1 hv2 hv3 f4 CM x0 x1 X1 Y1 F1
  go_wp2_with (refine wpList_storeW (b := w4.heap.size) (cs := viewZ) (vs := v.arr y) (by rw [heap_alloc_if, if_neg (by simp), heap_alloc_if, if_pos rfl]) (by rfl) 29 _ _ (by rfl) (by rfl) (by rfl) rfl Try.infoView (by rw [← Array.all_toList]; rfl) ?_)
  intro w5 f5' b5
  obtain ⟨w4', hw4'⟩ : ∃ w4', w4' = (w4.alloc (.cells viewZ 29)).alloc (.cells rwZ 51) := ⟨_, rfl⟩
  have g4' : Gr w4 w4' := by rw [hw4']; exact ((Fr.refl _ _).alloc _).alloc _
  have c4' : w4'.heap[w4.heap.size + 1]? = some (.cells rwZ 51 (0, 0)) := by rw [hw4', heap_alloc_if, if_pos (by simp)]
  have f5 : Fr (fun k => k = w4.heap.size) w4' w5 := by rw [hw4']; exact f5'
  have c5 := blk_keep f5 c4' (by omega)
  go_wp2_with (refine wpList_storeW (b := w4.heap.size + 1) (vs := rwArr u z [] none 0) c5 (by rfl) 51 _ _ (by rfl) (by rfl) (by rfl) rfl Try.infoRefView (by rw [← Array.all_toList]; rfl) ?_)
  intro w6 f6 b6
  have b5' := blk_keep f6 b5 (by omega)
  obtain ⟨q, hq⟩ : ∃ q, q = w4.heap.size := ⟨_, rfl⟩
  have hWq : W.heap.size + 2 ≤ q := by omega
  have hq4 : w4.heap.size ≤ q := by omega
  rw [← hq] at f5 b5' f6 b6 ⊢
  have G6 := Lib.hid (show Fr (fun k => q ≤ k) w4 w6 from FrB.b (FrB.b (FrB.gr (Fr.refl _ _) g4') f5 (Nat.le_refl q)) f6 (show q ≤ q + 1 by omega))
  have V6 := Lib.hid b5'
  have HVk := Lib.hid (fun w (f : Fr (fun k => q ≤ k) w4 w) => HV.out.keepLt f hq4)
  have FW := Lib.hid (fun w (f : Fr (fun k => q ≤ k) w4 w) => show Gr W w from Fr.trans F4.out f (fun k hk => .inr (by omega)))
  have X6 := Lib.hid (G6.out.block _ (show W.heap.size < w4.heap.size by omega) (by omega) |>.trans X4.out)
  have Y6 := Lib.hid (G6.out.block _ (show W.heap.size + 1 < w4.heap.size by omega) (by omega) |>.trans Y4.out)
  have hs6 : q + 1 < w6.heap.size := (Array.getElem?_eq_some_iff.1 b6).1
  clear f5' b5 hw4' g4' c4' f5 c5 f6 b6 b5' hq Y4 X4 F4 hsz0 hsz1 hsz4
  have CD := Lib.hid (new_any a2 c2 lc w6 (HC.out.keep (FW.out _ G6.out) (fun _ _ h => h)) hb HR.out)
  go_upto_region 4 with fail
  go_wp2_with fail
  refine CD.out.mono ?_
  rintro e w7 ⟨d, rfl, hd3, hd4, bl7⟩
  obtain ⟨dp, hdp⟩ : ∃ dp, dp = Value.pointer (some ⟨d, 0, none⟩) := ⟨_, rfl⟩
  have g7 := Gr.of_below bl7
  have G7 := Lib.hid (FrB.gr G6.out g7)
  have V7 := Lib.hid (blk_keep g7 V6.out (fun h => h))
  have X7 := Lib.hid (blk_keep g7 X6.out (fun h => h))
  have Y7 := Lib.hid (blk_keep g7 Y6.out (fun h => h))
  have hs7 := g7.size
  have D7 := Lib.hid (show DrawV w7 dp lc from .inr ⟨d, hdp, hd4⟩)
  have HPD := Lib.hid (show ∀ k, pblk dp k → q + 1 < k from fun k hk => by rw [hdp] at hk; unfold pblk at hk; cases hk; omega)
  rw [← hdp]
  clear hd3 hd4 bl7 g7 G6 V6 X6 Y6 hdp CD
  have y0 := (Bx.of_block Y7.out) 0 _ rfl
  have y1 := (Bx.of_block Y7.out) 1 _ rfl
  obtain ⟨ig, hg1, hg2, hgs⟩ := info_pair Try.zeroSizes
  obtain ⟨sa, hsa, hsa1, hsa2⟩ := tmod9 s0 hs0.1
  obtain ⟨sp, hsp, hsp1, hsp2⟩ := tmod9 s1 hs1.1
  go_upto_region 5 with fail
  refine wp_region_lit ?_
  iterate 24 go_step
  refine wpList_bldSizes (i0 := sa) (i1 := sp) (by rfl) (by rfl) ?_
  refine wpList_fresh (vs := #[.int .i64 sa, .int .i64 sp]) hg1 hg2 Try.infoSizes (by rfl) (by rw [← Array.all_toList]; rfl) (by rfl) (by rfl) ?_
  intro w8 f8 b8 l8
  obtain ⟨g, hg⟩ : ∃ g, g = w7.heap.size := ⟨_, rfl⟩
  rw [← hg] at b8 l8 ⊢
  have G8 := Lib.hid (FrB.gr G7.out f8)
  have V8 := Lib.hid (blk_keep f8 V7.out (fun h => h))
  have X8 := Lib.hid (blk_keep f8 X7.out (fun h => h))
  have D8 := Lib.hid (D7.out.keep f8)
  have S8 := Lib.hid b8
  have HPG := Lib.hid (show ¬ pblk dp g from fun hk => by have := D7.out.lt _ hk; omega)
  have hgq : q + 1 < g := by rw [hg]; omega
  clear hs7
  clear f8 b8 l8 hg y0 y1 G7 V7 X7 Y7 D7 hs6 hg1 hg2 hgs hsa hsp hs0 hs1 ig
  obtain ⟨A, B, hsm, hmA, hmB, hAl, hBl⟩ := smp_of HL.out.1 HL.out.2.1 HL.out.2.2.2.1 HL.out.2.2.2.2 (ds := lc) ⟨hsa1, hsa2⟩ ⟨hsp1, hsp2⟩ HR.out
  have z0 := (Bx.of_block S8.out) 0 _ rfl
  have z1 := (Bx.of_block S8.out) 1 _ rfl
  have HSP := Lib.hid (show VwSep dp v y from VwSep.new HV.out (fun k hk => by have := HPD.out k hk; omega))
  have CS := Lib.hid (fun w (f : Fr (fun k => q ≤ k) w4 w) (hd : DrawV w dp lc) => mixSample_any v y sa sp dp lc w (HVk.out w f) hd HSP.out (by omega) (by omega))
  unfold RowP at CS
  generalize (mixS v sa sp lc).1 = T at *
  generalize (mixS v sa sp lc).2 = d3 at *
  have SML := Lib.hid hsm
  have HMA := Lib.hid hmA
  have HMB := Lib.hid hmB
  have hTl : T.length = 1 + A.length + B.length := by rw [hsm.eq]; simp; omega
  have HTL := Lib.hid hTl
  have hT12 : T.length ≤ 12 := by omega
  clear hsm hmA hmB hTl
  go_upto_region 6 with fail
  refine wp_region_lit ?_
  refine wpList_load_mid (by rfl) 29 _ (by rfl) q 0 (by rfl) (Array.toList (v.arr y)) _ (blk_range V8.out) Try.underlying29 rfl Try.infoView ?_
  go_wp2_with fail
  refine (CS.out _ G8.out D8.out).mono ?_
  rintro e w9 ⟨aT, cT, rfl, hT, -, hd9, f9⟩
  have G9 := Lib.hid (FrB.p G8.out f9 (fun k hk => by have := HPD.out k hk; omega))
  have V9 := Lib.hid (blk_keep f9 V8.out (fun hk => by have := HPD.out _ hk; omega))
  have X9 := Lib.hid (blk_keep f9 X8.out (fun hk => by have := HPD.out _ hk; omega))
  have S9 := Lib.hid (blk_keep f9 S8.out HPG.out)
  have D9 := Lib.hid hd9
  have T9 := Lib.hid hT
  have t1 := hT.le
  have t2 := hT.max
  clear hT hd9 f9 G8 V8 X8 D8 S8 CS z0 z1
  go_upto_region 7 with fail
  have CA := Lib.hid (fun w => setLen_any y.aa v.act.length y.ac v.am w)
  have CP := Lib.hid (fun w => setLen_any y.pa v.pas.length y.pc v.pm w)
  haveI : Nonempty (WC (Gr w9)) := ⟨⟨w9, Fr.refl _ _⟩⟩
  have z0 : ∀ z' : WC (Gr w9), z'.val.cell? ⟨q, 0, none⟩ = some (.int .i64 v.self) := fun z' => z'.ok.cell ((Bx.of_block V9.out) 0 _ rfl) (fun h => h)
  have z1 : ∀ z' : WC (Gr w9), z'.val.cell? ⟨q, 1, none⟩ = some (.slice y.aa v.act.length y.ac) := fun z' => z'.ok.cell ((Bx.of_block V9.out) 1 _ rfl) (fun h => h)
  have z2 : ∀ z' : WC (Gr w9), z'.val.cell? ⟨q, 2, none⟩ = some (.int .i64 v.am) := fun z' => z'.ok.cell ((Bx.of_block V9.out) 2 _ rfl) (fun h => h)
  have z3 : ∀ z' : WC (Gr w9), z'.val.cell? ⟨q, 3, none⟩ = some (.slice y.pa v.pas.length y.pc) := fun z' => z'.ok.cell ((Bx.of_block V9.out) 3 _ rfl) (fun h => h)
  have z4 : ∀ z' : WC (Gr w9), z'.val.cell? ⟨q, 4, none⟩ = some (.int .i64 v.pm) := fun z' => z'.ok.cell ((Bx.of_block V9.out) 4 _ rfl) (fun h => h)
  have s0' : ∀ z' : WC (Gr w9), z'.val.cell? ⟨g, 0, none⟩ = some (.int .i64 sa) := fun z' => z'.ok.cell ((Bx.of_block S9.out) 0 _ rfl) (fun h => h)
  have s1' : ∀ z' : WC (Gr w9), z'.val.cell? ⟨g, 1, none⟩ = some (.int .i64 sp) := fun z' => z'.ok.cell ((Bx.of_block S9.out) 1 _ rfl) (fun h => h)
  go_cut [12, 13] from 42 to 53 (fun x1 x2 wx => x1 = .int .i64 A.length ∧ x2 = .int .i64 B.length ∧ Gr w9 wx)
  case first =>
    refine wp_region_plan [4, 10] (Plan.seq [0, 1, 2, 3, 4, 5, 6, 7, 8, 9, 10, 11, 12, 13] .done) (fun w' => ∃ z' : WC (Gr w9), w' = z'.val) (by kernel_rfl) (by kernel_rfl) (fun c a w d v h => by cases d <;> exact h) (fun c a w d v h => by cases d <;> exact h) ⟨⟨w9.drew, (Fr.refl _ _).drew⟩, rfl⟩ ?_
    simp only [Plan.seq, List.foldr]
    refine wpV_q (by simp only [List.getElem?_toArray, List.getElem?_cons_zero] <;> rfl) (by rfl) (by rfl) ?_
    go_big_quiet_step (fail)
    refine wpQuiet_nil ?_
    repeat (refine wpV_q (by simp only [List.getElem?_toArray, List.getElem?_cons_succ, List.getElem?_cons_zero] <;> rfl) (by rfl) (by rfl) ?_; go_big_quiet_step (fail); refine wpQuiet_nil ?_)
    refine wpV_e (by simp only [List.getElem?_toArray, List.getElem?_cons_succ, List.getElem?_cons_zero] <;> rfl) (by rfl) ?_
    go_wp2_with fail
    refine (CA.out _).mono ?_
    rintro e w10 ⟨rfl, f10⟩
    have F10 : Gr w9 w10 := Gr.trans ((Fr.refl _ _).drew) f10
    go_wp2_with fail
    refine ⟨⟨⟨w10, F10⟩, rfl⟩, ?_⟩
    repeat (refine wpV_q (by simp only [List.getElem?_toArray, List.getElem?_cons_succ, List.getElem?_cons_zero] <;> rfl) (by rfl) (by rfl) ?_; go_big_quiet_step (fail); refine wpQuiet_nil ?_)
    refine wpV_e (by simp only [List.getElem?_toArray, List.getElem?_cons_succ, List.getElem?_cons_zero] <;> rfl) (by rfl) ?_
    go_wp2_with fail
    refine (CP.out _).mono ?_
    rintro e w11 ⟨rfl, f11⟩
    have F11 : Gr w9 w11 := Gr.trans F10 f11
    go_wp2_with fail
    refine ⟨⟨⟨w11, F11⟩, rfl⟩, ?_⟩
    repeat (refine wpV_q (by simp only [List.getElem?_toArray, List.getElem?_cons_succ, List.getElem?_cons_zero] <;> rfl) (by rfl) (by rfl) ?_; go_big_quiet_step (fail); refine wpQuiet_nil ?_)
    refine wpV_done ?_
    have F12 := Lib.hid F11
    clear z0 z1 z2 z3 z4 s0' s1' this f10 F10 f11 F11
    go_wp2_with fail
    go_meet
    exact ⟨by rw [HMA.out], by rw [HMB.out], F12.out⟩
  case rest =>
    obtain ⟨rfl, rfl, g10⟩ := hcut
    generalize wc = w10 at *
    have hT0 : 0 < T.length := by have := HTL.out; omega
    obtain ⟨bT, oT, rfl, hcT⟩ := (T9.out.keep g10 (fun _ _ h => h)).int 0 hT0
    rw [Nat.add_zero] at hcT
    have hTs : T[0] = v.self := by have e := SML.out.eq; subst e; rfl
    rw [hTs] at hcT
    have v0 := g10.cell ((Bx.of_block V9.out) 0 _ rfl) (fun h => h)
    have hne : ((T.length : Int) != 1 + (A.length : Int) + (B.length : Int)) = false := by have := HTL.out; rw [bne_eq_false_iff_eq]; omega
    have hss : (v.self != v.self) = false := by simp
    have G10 := Lib.hid (FrB.gr G9.out g10)
    have GG10 := Lib.hid g10
    clear z0 z1 z2 z3 z4 s0' s1' this g10 CA CP
    go_upto_region 8 with fail
    go_cut [68] from 54 to 68 (fun c wx => c = .bool false ∧ Gr w10 wx)
    case first =>
      go_quiet (fail)
      have FQ := Lib.hid ((Fr.refl (fun _ => False) w10).drewN nq)
      go_wp2_with fail
      go_meet
      exact ⟨rfl, FQ.out⟩
    case rest =>
      obtain ⟨rfl, g11⟩ := hcut
      generalize wc = w11 at *
      have GG11 := Lib.hid (Gr.trans GG10.out g11)
      have VA9 := Lib.hid (HVk.out w9 G9.out)
      have CHA := Lib.hid (fun x w (f : Gr w9 w) => setHas_any y.aa y.ac v.act v.am x w (VA9.out.gr f).act HL.out.1.act)
      have CHP := Lib.hid (fun x w (f : Gr w9 w) => setHas_any y.pa y.pc v.pas v.pm x w (VA9.out.gr f).pas HL.out.1.pas)
      clear hcT hTs v0 hne hss g11 GG10 G10
      go_upto_region 10 with fail
      go_wp2_with fail
      go_loopw [14] (fun iv wr => ∃ i : Nat, iv = .int .i64 i ∧ 1 ≤ i ∧ i ≤ T.length ∧ Gr w9 wr) (fun iv _ => T.length - (intOf iv).toNat)
      case atStart => exact ⟨1, rfl, Nat.le_refl _, by omega, GG11.out⟩
      case round =>
        clear GG11
        obtain ⟨i, rfl, hi1, hiT, hgr⟩ := hrel
        have GR := Lib.hid hgr
        by_cases hlt : i < T.length
        · obtain ⟨bT', oT', hbT, hcI⟩ := (T9.out.keep hgr (fun _ _ h => h)).int i hlt
          cases hbT
          have CI := Lib.hid hcI
          clear hgr hcI
          go_upto_region 13 with fail
          go_cut [102] from 75 to 102 (fun c wx => c = .bool false ∧ Gr wr wx)
          case first =>
            haveI : Nonempty (WC (Gr wr)) := ⟨⟨wr, Fr.refl _ _⟩⟩
            have z0 : ∀ z' : WC (Gr wr), z'.val.cell? ⟨q, 0, none⟩ = some (.int .i64 v.self) := fun z' => z'.ok.cell ((Bx.of_block (blk_keep GR.out V9.out (fun h => h))) 0 _ rfl) (fun h => h)
            have z1 : ∀ z' : WC (Gr wr), z'.val.cell? ⟨q, 1, none⟩ = some (.slice y.aa v.act.length y.ac) := fun z' => z'.ok.cell ((Bx.of_block (blk_keep GR.out V9.out (fun h => h))) 1 _ rfl) (fun h => h)
            have z2 : ∀ z' : WC (Gr wr), z'.val.cell? ⟨q, 2, none⟩ = some (.int .i64 v.am) := fun z' => z'.ok.cell ((Bx.of_block (blk_keep GR.out V9.out (fun h => h))) 2 _ rfl) (fun h => h)
            have z3 : ∀ z' : WC (Gr wr), z'.val.cell? ⟨q, 3, none⟩ = some (.slice y.pa v.pas.length y.pc) := fun z' => z'.ok.cell ((Bx.of_block (blk_keep GR.out V9.out (fun h => h))) 3 _ rfl) (fun h => h)
            have z4 : ∀ z' : WC (Gr wr), z'.val.cell? ⟨q, 4, none⟩ = some (.int .i64 v.pm) := fun z' => z'.ok.cell ((Bx.of_block (blk_keep GR.out V9.out (fun h => h))) 4 _ rfl) (fun h => h)
            have ti : ∀ z' : WC (Gr wr), z'.val.cell? ⟨bT, oT + i, none⟩ = some (.int .i64 T[i]) := fun z' => z'.ok.cell CI.out (fun h => h)
            by_cases hia : i ≤ A.length
            · have CH := Lib.hid (fun w (f : Gr wr w) => CHA.out T[i] w (Gr.trans GR.out f))
              rw [(has_iff v.act T[i]).2 (SML.out.at_act hi1 hia hlt)] at CH
              generalize T[i] = xi at *
              have hd1 : decide ((i : Int) ≤ (A.length : Int)) = true := by simp; omega
              have hd2 : decide ((A.length : Int) < (i : Int)) = false := by simp; omega
              have hd3 : decide (i ≤ A.length) = true := by simp; omega
              have hd4 : decide (A.length < i) = false := by simp; omega
              clear CHA CHP hia
              refine wp_region_plan [10, 24] (Plan.seq [0, 1, 2, 3, 4, 5, 6, 7, 8, 9, 10, 11, 12, 13, 14, 15, 16, 17, 18, 19, 20, 21, 22, 23, 24, 25, 26, 27] .done) (fun w' => ∃ z' : WC (Gr wr), w' = z'.val) (by kernel_rfl) (by kernel_rfl) (fun c a w d v h => by cases d <;> exact h) (fun c a w d v h => by cases d <;> exact h) ⟨⟨wr.drew, (Fr.refl _ _).drew⟩, rfl⟩ ?_
              simp only [Plan.seq, List.foldr]
              refine wpV_q (by simp only [List.getElem?_toArray, List.getElem?_cons_zero] <;> rfl) (by rfl) (by rfl) ?_
              go_big_quiet_step (fail)
              refine wpQuiet_nil ?_
              repeat (refine wpV_q (by simp only [List.getElem?_toArray, List.getElem?_cons_succ, List.getElem?_cons_zero] <;> rfl) (by rfl) (by rfl) ?_; go_big_quiet_step (fail); refine wpQuiet_nil ?_)
              refine wpV_e (by simp only [List.getElem?_toArray, List.getElem?_cons_succ, List.getElem?_cons_zero] <;> rfl) (by rfl) ?_
              go_wp2_with fail
              refine (CH.out _ ((Fr.refl _ _).drew)).mono ?_
              rintro e w12 ⟨rfl, f12⟩
              have F12 : Gr wr w12 := Gr.trans ((Fr.refl _ _).drew) f12
              go_wp2_with fail
              refine ⟨⟨⟨w12, F12⟩, rfl⟩, ?_⟩
              repeat (refine wpV_q (by simp only [List.getElem?_toArray, List.getElem?_cons_succ, List.getElem?_cons_zero] <;> rfl) (by rfl) (by rfl) ?_; go_big_quiet_step (fail); refine wpQuiet_nil ?_)
              refine wpV_e (by simp only [List.getElem?_toArray, List.getElem?_cons_succ, List.getElem?_cons_zero] <;> rfl) (by rfl) ?_
              go_wp2_with fail
              refine ⟨⟨⟨w12, F12⟩, rfl⟩, ?_⟩
              repeat (refine wpV_q (by simp only [List.getElem?_toArray, List.getElem?_cons_succ, List.getElem?_cons_zero] <;> rfl) (by rfl) (by rfl) ?_; go_big_quiet_step (fail); refine wpQuiet_nil ?_)
              refine wpV_done ?_
              have F13 := Lib.hid F12
              clear z0 z1 z2 z3 z4 ti this f12 F12
              go_wp2_with fail
              go_meet
              exact ⟨rfl, F13.out⟩
            · have CH := Lib.hid (fun w (f : Gr wr w) => CHP.out T[i] w (Gr.trans GR.out f))
              rw [(has_iff v.pas T[i]).2 (SML.out.at_pas (by omega) hlt)] at CH
              generalize T[i] = xi at *
              have hd1 : decide ((i : Int) ≤ (A.length : Int)) = false := by simp; omega
              have hd2 : decide ((A.length : Int) < (i : Int)) = true := by simp; omega
              have hd3 : decide (i ≤ A.length) = false := by simp; omega
              have hd4 : decide (A.length < i) = true := by simp; omega
              clear CHA CHP hia
              refine wp_region_plan [10, 24] (Plan.seq [0, 1, 2, 3, 4, 5, 6, 7, 8, 9, 10, 11, 12, 13, 14, 15, 16, 17, 18, 19, 20, 21, 22, 23, 24, 25, 26, 27] .done) (fun w' => ∃ z' : WC (Gr wr), w' = z'.val) (by kernel_rfl) (by kernel_rfl) (fun c a w d v h => by cases d <;> exact h) (fun c a w d v h => by cases d <;> exact h) ⟨⟨wr.drew, (Fr.refl _ _).drew⟩, rfl⟩ ?_
              simp only [Plan.seq, List.foldr]
              refine wpV_q (by simp only [List.getElem?_toArray, List.getElem?_cons_zero] <;> rfl) (by rfl) (by rfl) ?_
              go_big_quiet_step (fail)
              refine wpQuiet_nil ?_
              repeat (refine wpV_q (by simp only [List.getElem?_toArray, List.getElem?_cons_succ, List.getElem?_cons_zero] <;> rfl) (by rfl) (by rfl) ?_; go_big_quiet_step (fail); refine wpQuiet_nil ?_)
              refine wpV_e (by simp only [List.getElem?_toArray, List.getElem?_cons_succ, List.getElem?_cons_zero] <;> rfl) (by rfl) ?_
              go_wp2_with fail
              refine ⟨⟨⟨wr.drew, (Fr.refl _ _).drew⟩, rfl⟩, ?_⟩
              repeat (refine wpV_q (by simp only [List.getElem?_toArray, List.getElem?_cons_succ, List.getElem?_cons_zero] <;> rfl) (by rfl) (by rfl) ?_; go_big_quiet_step (fail); refine wpQuiet_nil ?_)
              refine wpV_e (by simp only [List.getElem?_toArray, List.getElem?_cons_succ, List.getElem?_cons_zero] <;> rfl) (by rfl) ?_
              go_wp2_with fail
              refine (CH.out _ ((Fr.refl _ _).drew)).mono ?_
              rintro e w12 ⟨rfl, f12⟩
              have F12 : Gr wr w12 := Gr.trans ((Fr.refl _ _).drew) f12
              go_wp2_with fail
              refine ⟨⟨⟨w12, F12⟩, rfl⟩, ?_⟩
              repeat (refine wpV_q (by simp only [List.getElem?_toArray, List.getElem?_cons_succ, List.getElem?_cons_zero] <;> rfl) (by rfl) (by rfl) ?_; go_big_quiet_step (fail); refine wpQuiet_nil ?_)
              refine wpV_done ?_
              have F13 := Lib.hid F12
              clear z0 z1 z2 z3 z4 ti this f12 F12
              go_wp2_with fail
              go_meet
              exact ⟨rfl, F13.out⟩
          case rest =>
            obtain ⟨rfl, g12⟩ := hcut
            generalize wc = w12 at *
            have GR2 := Lib.hid (Gr.trans GR.out g12)
            clear g12 GR
            go_upto_region 15 with fail
            go_wp2_with fail
            go_loopw [15] (fun kv wr => ∃ k : Nat, kv = .int .i64 k ∧ 1 ≤ k ∧ k ≤ i ∧ Gr w9 wr) (fun kv _ => i - (intOf kv).toNat)
            case atStart => exact ⟨1, rfl, Nat.le_refl _, hi1, GR2.out⟩
            case round =>
              clear GR2 CI
              obtain ⟨k, rfl, hk1, hki, hgr⟩ := hrel
              have GR := Lib.hid hgr
              by_cases hlk : k < i
              · obtain ⟨b8, o8, hb8, hcI⟩ := (T9.out.keep hgr (fun _ _ h => h)).int i hlt
                cases hb8
                obtain ⟨b8, o8, hb8, hcK⟩ := (T9.out.keep hgr (fun _ _ h => h)).int k (by omega)
                cases hb8
                have hnk : (T[k] == T[i]) = false := by rw [beq_eq_false_iff_ne]; exact SML.out.ne hk1 hlk hlt
                generalize T[k] = xk at *
                generalize T[i] = xi at *
                clear hgr
                go_upto_region 18 with fail
                go_quiet (fail)
                have FQ := Lib.hid ((GR.out).drewN nq)
                clear GR hcI hcK
                go_wp2_with fail
                go_roundw
                case rel => exact ⟨k + 1, by go_num, by omega, hlk, FQ.out⟩
                case measure => simp [intOf]; omega
              · clear hgr
                go_wp2_with fail
                go_roundw
                case rel => exact ⟨i + 1, by go_num, by omega, hlt, GR.out⟩
                case measure => simp [intOf]; omega
        · clear hgr
          obtain ⟨l', hl1, hl2, hl3, hl4, hl5⟩ := cut_list (Value.int .i64) W a3 c3 ln 20 20 rfl HN.out
          have GX := Lib.hid (FrB.gr G9.out GR.out)
          have VX := Lib.hid (blk_keep GR.out V9.out (fun h => h))
          have DX := Lib.hid (D9.out.keep GR.out)
          have XX := Lib.hid (blk_keep GR.out X9.out (fun h => h))
          have HK := Lib.hid (kAll_facts l' v d3 HL.out.1 D9.out.range)
          have HKG := Lib.hid (kAll_good l' v d3 HL.out.1)
          have HKS := Lib.hid (kAll_sane l' v d3 HL.out.1 HL.out.2.1)
          have CO := Lib.hid (fun w (f : Gr wr w) => onMixed_any v y ⟨8, 0, 0, false, l'⟩ a3 c3 dp d3 w (HVk.out w (FrB.gr GX.out f)) (DX.out.keep f) HSP.out (hl3.keep (FW.out _ (FrB.gr GX.out f)) (fun _ _ h => h)) (fun hn q hq hk => by have h9 := hl3.ltNE hn q hq; have := HPD.out _ hk; omega))
          unfold VEnd at CO
          simp only at CO
          have hk8 := hl3.le
          have HPX := Lib.hid (show ∀ k, pblk dp k → k < wr.heap.size from DX.out.lt)
          generalize (kAll v l' d3).1 = v' at *
          generalize (kAll v l' d3).2 = d4 at *
          have hqw : q < wr.heap.size := (Array.getElem?_eq_some_iff.1 VX.out).1
          clear hl2 hl3 GR G9 V9 D9 X9 S9 T9 CHA CHP VA9 SML
          haveI : Nonempty (WC (Fr (pblk dp) wr)) := ⟨⟨wr, Fr.refl _ _⟩⟩
          have z0 : ∀ z' : WC (Fr (pblk dp) wr), z'.val.cell? ⟨q, 0, none⟩ = some (.int .i64 v.self) := fun z' => z'.ok.cell ((Bx.of_block VX.out) 0 _ rfl) (fun hk => by have := HPD.out _ hk; simp only at this; omega)
          have z1 : ∀ z' : WC (Fr (pblk dp) wr), z'.val.cell? ⟨q, 1, none⟩ = some (.slice y.aa v.act.length y.ac) := fun z' => z'.ok.cell ((Bx.of_block VX.out) 1 _ rfl) (fun hk => by have := HPD.out _ hk; simp only at this; omega)
          have z2 : ∀ z' : WC (Fr (pblk dp) wr), z'.val.cell? ⟨q, 2, none⟩ = some (.int .i64 v.am) := fun z' => z'.ok.cell ((Bx.of_block VX.out) 2 _ rfl) (fun hk => by have := HPD.out _ hk; simp only at this; omega)
          have z3 : ∀ z' : WC (Fr (pblk dp) wr), z'.val.cell? ⟨q, 3, none⟩ = some (.slice y.pa v.pas.length y.pc) := fun z' => z'.ok.cell ((Bx.of_block VX.out) 3 _ rfl) (fun hk => by have := HPD.out _ hk; simp only at this; omega)
          have z4 : ∀ z' : WC (Fr (pblk dp) wr), z'.val.cell? ⟨q, 4, none⟩ = some (.int .i64 v.pm) := fun z' => z'.ok.cell ((Bx.of_block VX.out) 4 _ rfl) (fun hk => by have := HPD.out _ hk; simp only at this; omega)
          have x2 : ∀ z' : WC (Fr (pblk dp) wr), z'.val.cell? ⟨W.heap.size, 2, none⟩ = some (.slice a3 ln.length c3) := fun z' => z'.ok.cell ((Bx.of_block XX.out) 2 _ rfl) (fun hk => by have := HPD.out _ hk; simp only at this; omega)
          go_upto_region 20 with fail
          go_cut [16] from 117 to 127 (fun rv wx => ∃ (g2 : Nat) (y' : VwP), rv = .pointer (some ⟨g2, 0, none⟩) ∧ wr.heap.size ≤ g2 ∧ wx.heap[g2]? = some (.cells (v'.arr y') 29 (0, 0)) ∧ VwAt wx v' y' ∧ Fr (pblk dp) wr wx)
          case first =>
            refine wp_region_plan [10, 11, 12] (Plan.seq [0, 1, 2, 3, 4, 5, 6, 7, 8, 9] (.fork 10 11 (Plan.seq [11, 12] .done) (Plan.seq [10, 12] .done))) (fun w' => ∃ z' : WC (Fr (pblk dp) wr), w' = z'.val) (by kernel_rfl) (by kernel_rfl) (fun c a w d v h => by cases d <;> exact h) (fun c a w d v h => by cases d <;> exact h) ⟨⟨wr.drew, (Fr.refl _ _).drew⟩, rfl⟩ ?_
            simp only [Plan.seq, List.foldr]
            refine wpV_q (by simp only [List.getElem?_toArray, List.getElem?_cons_zero] <;> rfl) (by rfl) (by rfl) ?_
            go_big_quiet_step (fail)
            refine wpQuiet_nil ?_
            repeat (refine wpV_q (by simp only [List.getElem?_toArray, List.getElem?_cons_succ, List.getElem?_cons_zero] <;> rfl) (by rfl) (by rfl) ?_; go_big_quiet_step (fail); refine wpQuiet_nil ?_)
            refine wpV_fork (by simp only [List.getElem?_toArray, List.getElem?_cons_succ, List.getElem?_cons_zero] <;> rfl) (by simp only [List.getElem?_toArray, List.getElem?_cons_succ, List.getElem?_cons_zero] <;> rfl) ?_ ?_
            · go_wp2_with fail
              refine (CO.out _ ((Fr.refl _ _).drew)).mono ?_
              rintro e w20 ⟨y', rfl, h20, d20, f20', k20⟩
              have f20 : Fr (pblk dp) wr w20 := Fr.trans ((Fr.refl _ _).drew) f20' (fun _ h => .inl h)
              go_wp2_with fail
              refine ⟨⟨⟨w20, f20⟩, rfl⟩, ?_⟩
              refine wpV_e (by simp only [List.getElem?_toArray, List.getElem?_cons_succ, List.getElem?_cons_zero] <;> rfl) (by rfl) ?_
              go_wp2_with fail
              obtain ⟨w21, hw21⟩ : ∃ w21, w21 = w20.alloc (.cells viewZ 29) := ⟨_, rfl⟩
              have f21 : Gr w20 w21 := by rw [hw21]; exact (Fr.refl _ _).alloc _
              have b21 : w21.heap[w20.heap.size]? = some (.cells viewZ 29 (0, 0)) := by rw [hw21, heap_alloc_if, if_pos rfl]
              rw [← hw21]
              have f21w : Fr (pblk dp) wr w21 := Fr.trans f20 f21 (fun _ h => h.elim)
              refine ⟨⟨⟨w21, f21w⟩, rfl⟩, ?_⟩
              clear hw21
              refine wpV_e (by simp only [List.getElem?_toArray, List.getElem?_cons_succ, List.getElem?_cons_zero] <;> rfl) (by rfl) ?_
              go_wp2_with (refine wpList_storeW (vs := v'.arr y') b21 (by rfl) 29 _ _ (by rfl) (by rfl) (by rfl) rfl Try.infoView (by rw [← Array.all_toList]; rfl) ?_)
              intro w22 f22 b22
              refine wpList_nil ?_
              have hs20 := f20.size
              have f22w : Fr (pblk dp) wr w22 := Fr.trans f21w f22 (fun k hk => .inr (by omega))
              refine ⟨⟨⟨w22, f22w⟩, rfl⟩, ?_⟩
              have H22 := Lib.hid (And.intro hs20 (And.intro b22 (And.intro ((h20.gr f21).keepA f22 (VwApart.new h20 (fun k h => by omega))) f22w)))
              clear z0 z1 z2 z3 z4 x2 this f20 f20' f21 b21 f21w f22 b22 f22w h20 d20 k20 hs20
              refine wpV_done ?_
              go_wp2_with fail
              go_meet
              exact ⟨w20.heap.size, y', rfl, H22.out.1, H22.out.2.1, H22.out.2.2.1, H22.out.2.2.2⟩
            · go_wp2_with fail
              obtain ⟨w21, hw21⟩ : ∃ w21, w21 = (wr.alloc (.cells viewZ 29)).drew := ⟨_, rfl⟩
              have f21 : Gr wr w21 := by rw [hw21]; exact ((Fr.refl _ _).alloc _).drew
              have b21 : w21.heap[wr.heap.size]? = some (.cells viewZ 29 (0, 0)) := by rw [hw21]; show (wr.alloc (.cells viewZ 29)).heap[wr.heap.size]? = _; rw [heap_alloc_if, if_pos rfl]
              rw [← hw21]
              have f21w : Fr (pblk dp) wr w21 := f21.mono (fun _ _ h => h.elim)
              refine ⟨⟨⟨w21, f21w⟩, rfl⟩, ?_⟩
              clear hw21
              refine wpV_e (by simp only [List.getElem?_toArray, List.getElem?_cons_succ, List.getElem?_cons_zero] <;> rfl) (by rfl) ?_
              go_wp2_with fail
              refine (CO.out _ f21).mono ?_
              rintro e w20 ⟨y', rfl, h20, d20, f20', k20⟩
              have f20 : Fr (pblk dp) wr w20 := Fr.trans f21w f20' (fun _ h => .inl h)
              have b20 := blk_keep f20' b21 (fun hk => by have := HPX.out _ hk; omega)
              go_wp2_with fail
              refine ⟨⟨⟨w20, f20⟩, rfl⟩, ?_⟩
              refine wpV_e (by simp only [List.getElem?_toArray, List.getElem?_cons_succ, List.getElem?_cons_zero] <;> rfl) (by rfl) ?_
              go_wp2_with (refine wpList_storeW (vs := v'.arr y') b20 (by rfl) 29 _ _ (by rfl) (by rfl) (by rfl) rfl Try.infoView (by rw [← Array.all_toList]; rfl) ?_)
              intro w22 f22 b22
              refine wpList_nil ?_
              have f22w : Fr (pblk dp) wr w22 := Fr.trans f20 f22 (fun k hk => .inr (by omega))
              refine ⟨⟨⟨w22, f22w⟩, rfl⟩, ?_⟩
              have hg21 : wr.heap.size < w21.heap.size := (Array.getElem?_eq_some_iff.1 b21).1
              have ap : VwApart (fun k => k = wr.heap.size) v' y' := (VwApart.new (HVk.out _ GX.out) (fun k h => by omega)).next k20 (fun k h => by omega)
              have H22 := Lib.hid (And.intro b22 (And.intro (h20.keepA f22 ap) f22w))
              clear z0 z1 z2 z3 z4 x2 this f20 f20' f21 b21 b20 f21w f22 b22 f22w h20 d20 k20 ap hg21
              refine wpV_done ?_
              go_wp2_with fail
              go_meet
              exact ⟨wr.heap.size, y', rfl, Nat.le_refl _, H22.out.1, H22.out.2.1, H22.out.2.2⟩
          case rest =>
            obtain ⟨g2, y', rfl, hg2, bg2, hv2, f20⟩ := hcut
            generalize wc = w20 at *
            have GZ := Lib.hid (FrB.p GX.out f20 (fun k hk => by have := HPD.out k hk; omega))
            have VZ := Lib.hid (blk_keep f20 VX.out (fun hk => by have := HPD.out _ hk; omega))
            have BZ := Lib.hid bg2
            have HV2 := Lib.hid hv2
            clear z0 z1 z2 z3 z4 x2 this bg2 hv2 f20 CO
            have CS := Lib.hid (fun w (f : Gr w20 w) => viewSane_any v' y' w (HV2.out.gr f))
            rw [(vSane_iff v').2 HKS.out] at CS
            have CL := Lib.hid (fun w => setLen_any y'.pa v'.pas.length y'.pc v'.pm w)
            have CM := Lib.hid (fun w => setLen_any y.pa v.pas.length y.pc v.pm w)
            have YA := Lib.hid (fun w (f : Gr w20 w) => setAll_any y'.aa y'.ac v'.act v'.am w (HV2.out.gr f).act HKG.out.act)
            have YB := Lib.hid (fun w (f : Gr w20 w) => setAll_any y.aa y.ac v.act v.am w ((HVk.out w20 GZ.out).gr f).act HL.out.1.act)
            have hp6 : v'.pas.length ≤ 6 := by have h9 := HKG.out.pas.fit; rw [HK.out.2.2.1, HL.out.2.2.2.2] at h9; omega
            have hpp : v.pas.length ≤ v'.pas.length := HK.out.2.1
            have hd1 : decide ((v'.pas.length : Int) ≤ 6) = true := by simp; omega
            have hd2 : decide ((v.pas.length : Int) ≤ (v'.pas.length : Int)) = true := by simp; omega
            have hd3 : decide (v.pas.length ≤ v'.pas.length) = true := by simp; omega
            have HAE := Lib.hid HK.out.1
            have m1 := HV2.out.act.le
            have m2 := HV2.out.act.max
            have m3 := HV2.out.pas.le
            have m4 := HV2.out.pas.max
            haveI : Nonempty (WC (Gr w20)) := ⟨⟨w20, Fr.refl _ _⟩⟩
            have z0 : ∀ z' : WC (Gr w20), z'.val.cell? ⟨g2, 0, none⟩ = some (.int .i64 v'.self) := fun z' => z'.ok.cell ((Bx.of_block BZ.out) 0 _ rfl) (fun h => h)
            have z1 : ∀ z' : WC (Gr w20), z'.val.cell? ⟨g2, 1, none⟩ = some (.slice y'.aa v'.act.length y'.ac) := fun z' => z'.ok.cell ((Bx.of_block BZ.out) 1 _ rfl) (fun h => h)
            have z2 : ∀ z' : WC (Gr w20), z'.val.cell? ⟨g2, 2, none⟩ = some (.int .i64 v'.am) := fun z' => z'.ok.cell ((Bx.of_block BZ.out) 2 _ rfl) (fun h => h)
            have z3 : ∀ z' : WC (Gr w20), z'.val.cell? ⟨g2, 3, none⟩ = some (.slice y'.pa v'.pas.length y'.pc) := fun z' => z'.ok.cell ((Bx.of_block BZ.out) 3 _ rfl) (fun h => h)
            have z4 : ∀ z' : WC (Gr w20), z'.val.cell? ⟨g2, 4, none⟩ = some (.int .i64 v'.pm) := fun z' => z'.ok.cell ((Bx.of_block BZ.out) 4 _ rfl) (fun h => h)
            have x0 : ∀ z' : WC (Gr w20), z'.val.cell? ⟨q, 0, none⟩ = some (.int .i64 v.self) := fun z' => z'.ok.cell ((Bx.of_block VZ.out) 0 _ rfl) (fun h => h)
            have x1 : ∀ z' : WC (Gr w20), z'.val.cell? ⟨q, 1, none⟩ = some (.slice y.aa v.act.length y.ac) := fun z' => z'.ok.cell ((Bx.of_block VZ.out) 1 _ rfl) (fun h => h)
            have x2 : ∀ z' : WC (Gr w20), z'.val.cell? ⟨q, 2, none⟩ = some (.int .i64 v.am) := fun z' => z'.ok.cell ((Bx.of_block VZ.out) 2 _ rfl) (fun h => h)
            have x3 : ∀ z' : WC (Gr w20), z'.val.cell? ⟨q, 3, none⟩ = some (.slice y.pa v.pas.length y.pc) := fun z' => z'.ok.cell ((Bx.of_block VZ.out) 3 _ rfl) (fun h => h)
            have x4 : ∀ z' : WC (Gr w20), z'.val.cell? ⟨q, 4, none⟩ = some (.int .i64 v.pm) := fun z' => z'.ok.cell ((Bx.of_block VZ.out) 4 _ rfl) (fun h => h)
            go_upto_region 21 with fail
            clear HMA HMB HPD
            refine wp_region_plan [1, 5, 11, 14, 20, 23, 24] (Plan.seq [0, 1, 2, 3, 4, 5, 6, 7, 8, 9, 10, 11, 12, 13, 14, 15, 16, 17, 18, 19, 20, 21, 22, 23, 24, 25, 26] .done) (fun w' => ∃ z' : WC (Gr w20), w' = z'.val) (by kernel_rfl) (by kernel_rfl) (fun c a w d v h => by cases d <;> exact h) (fun c a w d v h => by cases d <;> exact h) ⟨⟨w20.drew, (Fr.refl _ _).drew⟩, rfl⟩ ?_
            simp only [Plan.seq, List.foldr]
            refine wpV_q (by simp only [List.getElem?_toArray, List.getElem?_cons_zero] <;> rfl) (by rfl) (by rfl) ?_
            go_big_quiet_step (fail)
            refine wpQuiet_nil ?_
            repeat (refine wpV_q (by simp only [List.getElem?_toArray, List.getElem?_cons_succ, List.getElem?_cons_zero] <;> rfl) (by rfl) (by rfl) ?_; go_big_quiet_step (fail); refine wpQuiet_nil ?_)
            refine wpV_e (by simp only [List.getElem?_toArray, List.getElem?_cons_succ, List.getElem?_cons_zero] <;> rfl) (by rfl) ?_
            go_wp2_with fail
            refine (CS.out _ ((Fr.refl _ _).drew)).mono ?_
            rintro e w30 ⟨rfl, f30⟩
            have F30 : Gr w20 w30 := Gr.trans ((Fr.refl _ _).drew) f30
            go_wp2_with fail
            refine ⟨⟨⟨w30, F30⟩, rfl⟩, ?_⟩
            repeat (refine wpV_q (by simp only [List.getElem?_toArray, List.getElem?_cons_succ, List.getElem?_cons_zero] <;> rfl) (by rfl) (by rfl) ?_; go_big_quiet_step (fail); refine wpQuiet_nil ?_)
            refine wpV_e (by simp only [List.getElem?_toArray, List.getElem?_cons_succ, List.getElem?_cons_zero] <;> rfl) (by rfl) ?_
            go_wp2_with fail
            refine (CL.out _).mono ?_
            rintro e w31 ⟨rfl, f31⟩
            have F31 : Gr w20 w31 := Gr.trans F30 f31
            go_wp2_with fail
            refine ⟨⟨⟨w31, F31⟩, rfl⟩, ?_⟩
            repeat (refine wpV_q (by simp only [List.getElem?_toArray, List.getElem?_cons_succ, List.getElem?_cons_zero] <;> rfl) (by rfl) (by rfl) ?_; go_big_quiet_step (fail); refine wpQuiet_nil ?_)
            refine wpV_e (by simp only [List.getElem?_toArray, List.getElem?_cons_succ, List.getElem?_cons_zero] <;> rfl) (by rfl) ?_
            go_wp2_with fail
            refine (CL.out _).mono ?_
            rintro e w32 ⟨rfl, f32⟩
            have F32 : Gr w20 w32 := Gr.trans F31 f32
            go_wp2_with fail
            refine ⟨⟨⟨w32, F32⟩, rfl⟩, ?_⟩
            repeat (refine wpV_q (by simp only [List.getElem?_toArray, List.getElem?_cons_succ, List.getElem?_cons_zero] <;> rfl) (by rfl) (by rfl) ?_; go_big_quiet_step (fail); refine wpQuiet_nil ?_)
            refine wpV_e (by simp only [List.getElem?_toArray, List.getElem?_cons_succ, List.getElem?_cons_zero] <;> rfl) (by rfl) ?_
            go_wp2_with fail
            refine (CM.out _).mono ?_
            rintro e w33 ⟨rfl, f33⟩
            have F33 : Gr w20 w33 := Gr.trans F32 f33
            go_wp2_with fail
            refine ⟨⟨⟨w33, F33⟩, rfl⟩, ?_⟩
            repeat (refine wpV_q (by simp only [List.getElem?_toArray, List.getElem?_cons_succ, List.getElem?_cons_zero] <;> rfl) (by rfl) (by rfl) ?_; go_big_quiet_step (fail); refine wpQuiet_nil ?_)
            refine wpV_e (by simp only [List.getElem?_toArray, List.getElem?_cons_succ, List.getElem?_cons_zero] <;> rfl) (by rfl) ?_
            go_wp2_with fail
            refine (YA.out _ F33).mono ?_
            rintro e w34 ⟨vv, rfl, ho, hbl⟩
            obtain ⟨a34, c34, rfl, h34, -⟩ := SlA.of_own ho
            have F34 : Gr w20 w34 := Gr.trans F33 (Gr.of_below hbl)
            clear ho hbl
            go_wp2_with fail
            refine ⟨⟨⟨w34, F34⟩, rfl⟩, ?_⟩
            repeat (refine wpV_q (by simp only [List.getElem?_toArray, List.getElem?_cons_succ, List.getElem?_cons_zero] <;> rfl) (by rfl) (by rfl) ?_; go_big_quiet_step (fail); refine wpQuiet_nil ?_)
            refine wpV_e (by simp only [List.getElem?_toArray, List.getElem?_cons_succ, List.getElem?_cons_zero] <;> rfl) (by rfl) ?_
            go_wp2_with fail
            refine (YB.out _ F34).mono ?_
            rintro e w35 ⟨vv, rfl, ho, hbl⟩
            obtain ⟨a35, c35, rfl, h35, -⟩ := SlA.of_own ho
            have F35 : Gr w20 w35 := Gr.trans F34 (Gr.of_below hbl)
            have h34' := h34.keep (Gr.of_below hbl) (fun _ _ h => h)
            have HS := Lib.hid (show Calls Try.prog 37 #[.slice a34 v'.act.length c34, .slice a35 v.act.length c35] w35 fun e w' => e = .returned (.bool true) ∧ Gr w35 w' from (refSame_any a34 c34 v'.act a35 c35 v.act w35 h34' h35).mono (by
              rintro e w' ⟨rfl, q9, rfl⟩
              rw [(same_iff v'.act v.act).2 HAE.out]
              exact ⟨rfl, (Fr.refl _ _).drewN q9⟩))
            clear ho hbl h34 h34' h35
            go_wp2_with fail
            refine ⟨⟨⟨w35, F35⟩, rfl⟩, ?_⟩
            refine wpV_e (by simp only [List.getElem?_toArray, List.getElem?_cons_succ, List.getElem?_cons_zero] <;> rfl) (by rfl) ?_
            go_wp2_with fail
            refine (HS.out).mono ?_
            rintro e w36 ⟨rfl, f36⟩
            have F36 : Gr w20 w36 := Gr.trans F35 f36
            go_wp2_with fail
            refine ⟨⟨⟨w36, F36⟩, rfl⟩, ?_⟩
            repeat (refine wpV_q (by simp only [List.getElem?_toArray, List.getElem?_cons_succ, List.getElem?_cons_zero] <;> rfl) (by rfl) (by rfl) ?_; go_big_quiet_step (fail); refine wpQuiet_nil ?_)
            refine wpV_done ?_
            have F37 := Lib.hid F36
            clear z0 z1 z2 z3 z4 x0 x1 x2 x3 x4 this
            go_wp2_with fail
            go_ret
            exact ⟨rfl, FW.out _ (FrB.gr GZ.out F37.out)⟩
end Go.Proofs.Ytdpnkikaciigoaa
