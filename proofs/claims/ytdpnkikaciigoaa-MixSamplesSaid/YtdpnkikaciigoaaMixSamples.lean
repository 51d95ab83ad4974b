/-
  The walk of MixSamples (printed by gen_mixsamples.py).
-/
import Derived.Test.YtdpnkikaciigoaaMixMade
import Derived.Test.YtdpnkikaciigoaaMixRef2
import Derived.Test.YtdpnkikaciigoaaMixSpk
namespace Go.Proofs.Ytdpnkikaciigoaa
open Go.RowKit Go.Proofs

theorem Try.zeroSizes : (Try.prog.info? 80).map (fun i => (i.zero, i.size)) = some (some (.agg #[.int .i64 0, .int .i64 0]), 2) := by kernel_rfl
theorem Try.infoSizes : (Try.prog.info? 80).map (·.size) = some 2 := by kernel_rfl
theorem exec_bldSizes (ρ : Operand → Value) (w : World) (dst : Option Tmp) (ty : TypeId) (pos : String) (after : Array Edge) {x0 x1 : Operand} {i0 i1 : Int} (h0 : ρ x0 = .int .i64 i0) (h1 : ρ x1 = .int .i64 i1) :
    (execOp ρ ⟨dst, .build 80 #[(0, x0), (1, x1)], ty, pos, after, none⟩).run Try.prog w = .ok (.value (.agg #[.int .i64 i0, .int .i64 i1])) w := by simp [go_sem, h0, h1]
theorem wpList_bldSizes {ops : Array Oper} {rest : List Oper} {dst : Option Tmp} {ty : TypeId} {pos : String} {after : Array Edge} {A : Act} {w : World} {Q : Exit → Act → World → Prop} {x0 x1 : Operand} {i0 i1 : Int} (h0 : A.eval x0 = .int .i64 i0) (h1 : A.eval x1 = .int .i64 i1)
    (h : wpList Try.prog ops Q rest (A.put dst (.agg #[.int .i64 i0, .int .i64 i1])) w) : wpList Try.prog ops Q (⟨dst, .build 80 #[(0, x0), (1, x1)], ty, pos, after, none⟩ :: rest) A w := by
  refine wpList_plain rfl fun K hK => ?_
  unfold Oper.wp
  rw [exec_bldSizes A.eval w dst ty pos after h0 h1]
  exact hK _ _ h
theorem oneV_out {ds l : List Int} (hl : l ≠ []) (h : l.length < 2 ∨ ds = [] ∨ 2147483647 < l.length) : oneV ds l = (l.getD 0 0, true, ds) := by
  unfold oneV
  rw [if_neg hl]
  have : bel ds (l.length : Int) = (0, ds) := by
    unfold bel
    split
    · rcases h with h | h | h
      · omega
      · subst h; rfl
      · omega
    · rfl
  unfold belN
  rw [this]
  rfl
theorem oneV_in {c : Int} {r l : List Int} (h : 2 ≤ l.length) (h2 : l.length ≤ 64) : oneV (c :: r) l = (l.getD (c % (l.length : Int)).toNat 0, true, r) := by
  unfold oneV
  have hl : l ≠ [] := fun e => by rw [e] at h; simp at h
  rw [if_neg hl]
  have : bel (c :: r) (l.length : Int) = (c % (l.length : Int), r) := by
    unfold bel
    rw [if_pos (by omega)]
  unfold belN
  rw [this]
theorem VwAt.keepLt {B : Nat} {w w' : World} {v : Vw} {y : VwP} (h : VwAt w v y) (f : Fr (fun k => B ≤ k) w w') (hB : w.heap.size ≤ B) : VwAt w' v y :=
  ⟨h.act.keepNE f (fun hl q hq hk => by have := h.act.ltNE hl q hq; omega), h.pas.keepNE f (fun hl q hq hk => by have := h.pas.ltNE hl q hq; omega), h.good⟩
theorem RwAt.keepGt {B : Nat} {w w' : World} {u : Vw} {z : VwP} {ds : List Int} {da : Option Addr} {dc : Nat} (h : RwAt w u z ds da dc) (f : Fr (fun k => B ≤ k) w w') (hB : w.heap.size ≤ B) : RwAt w' u z ds da dc :=
  h.keepLt f (fun hl q hq => by have := h.act.ltNE hl q hq; omega) (fun hl q hq => by have := h.pas.ltNE hl q hq; omega) (fun hl q hq => by have := h.dr.ltU hl q hq; omega)
theorem VwSep.new {p : Value} {w : World} {v : Vw} {y : VwP} (h : VwAt w v y) (hp : ∀ k, pblk p k → w.heap.size ≤ k) : VwSep p v y :=
  ⟨fun hl q hq hk => by have := h.act.ltNE hl q hq; have := hp _ hk; omega, fun hl q hq hk => by have := h.pas.ltNE hl q hq; have := hp _ hk; omega⟩
theorem FrB.gr {B : Nat} {a b c : World} (h : Fr (fun k => B ≤ k) a b) (f : Gr b c) : Fr (fun k => B ≤ k) a c := Fr.trans h f (fun _ h => h.elim)
theorem FrB.p {B : Nat} {p : Value} {a b c : World} (h : Fr (fun k => B ≤ k) a b) (f : Fr (pblk p) b c) (hp : ∀ k, pblk p k → B ≤ k) : Fr (fun k => B ≤ k) a c := Fr.trans h f (fun k hk => .inl (hp k hk))
theorem FrB.b {B q : Nat} {a b c : World} (h : Fr (fun k => B ≤ k) a b) (f : Fr (fun k => k = q) b c) (hp : B ≤ q) : Fr (fun k => B ≤ k) a c := Fr.trans h f (fun k hk => .inl (by omega))

set_option maxHeartbeats 16000000 in
set_option maxRecDepth 100000 in
theorem mixSamples_walk (a0 : Option Addr) (c0 : Nat) (la : List Int) (a1 : Option Addr) (c1 : Nat) (lp : List Int) (s0 s1 s2 : Int) (a2 : Option Addr) (c2 : Nat) (lc : List Int) (W : World) (h0 : SlA W a0 la.length c0 (ints la)) (h1 : SlA W a1 lp.length c1 (ints lp))
    (hs0 : -9223372036854775808 ≤ s0 ∧ s0 ≤ 9223372036854775807) (hs1 : -9223372036854775808 ≤ s1 ∧ s1 ≤ 9223372036854775807) (hc : SlA W a2 lc.length c2 (lc.map (Value.int .u32))) (hcr : ∀ x ∈ lc, 0 ≤ x ∧ x < 4294967296) :
    Calls Try.prog 8 #[.agg #[.slice a0 la.length c0, .slice a1 lp.length c1], .agg #[.int .i64 s0, .int .i64 s1, .int .i64 s2], .slice a2 lc.length c2] W fun e w' => e = .returned (.bool true) ∧ Gr W w' := by
  obtain ⟨iz, hz1, hz2, hzs⟩ := info_pair Try.zeroView
  obtain ⟨ir, hr1, hr2, hrs⟩ := info_pair Try.zeroRefView
  obtain ⟨w0, hw0⟩ : ∃ w0, w0 = (W.alloc (.cells #[.slice a0 la.length c0, .slice a1 lp.length c1] 75)).alloc (.cells #[.int .i64 s0, .int .i64 s1, .int .i64 s2] 76) := ⟨_, rfl⟩
  have f0 : Gr W w0 := by rw [hw0]; exact ((Fr.refl _ _).alloc _).alloc _
  have X0 := Lib.hid (show w0.heap[W.heap.size]? = some (.cells #[.slice a0 la.length c0, .slice a1 lp.length c1] 75 (0, 0)) by rw [hw0, heap_alloc_if, if_neg (by simp), heap_alloc_if, if_pos rfl])
  have Y0 := Lib.hid (show w0.heap[W.heap.size + 1]? = some (.cells #[.int .i64 s0, .int .i64 s1, .int .i64 s2] 76 (0, 0)) by rw [hw0, heap_alloc_if, if_pos (by simp)])
  have hsz0 : W.heap.size + 2 ≤ w0.heap.size := by rw [hw0]; simp
  have F0 := Lib.hid f0
  have HW0 := Lib.hid hw0
  have S0 := Lib.hid (speaks12_any w0)
  have HA := Lib.hid h0
  have HP := Lib.hid h1
  have e1 := h0.le
  have e2 := h0.max
  have e3 := h1.le
  have e4 := h1.max
  have e5 := hc.le
  have e6 := hc.max
  obtain ⟨l', hl1, hl2, hl3, hl4, hl5⟩ := cut_list (Value.int .u32) W a2 c2 lc 30 30 rfl hc
  have hb : l'.length * 4 ≤ 140737488355328 := by omega
  have e7 := hl3.le
  have HC := Lib.hid hl3
  have HR := Lib.hid (show ∀ x ∈ l', 0 ≤ x ∧ x < 4294967296 from fun x hx => hcr x (by rw [hl2] at hx; exact List.mem_of_mem_take hx))
  clear hw0 f0 h0 h1 hc hcr hl2 hl3
  go_enter Try.func8, Try.ntmps8
  go_upto_region 1 with fail
  rw [← HW0.out]
  clear HW0
  go_wp2_with fail
  refine S0.out.mono ?_
  rintro e w1 ⟨rfl, f1⟩
  have F1 := Lib.hid (Gr.trans F0.out f1)
  have X1 := Lib.hid (blk_keep f1 X0.out (fun h => h))
  have Y1 := Lib.hid (blk_keep f1 Y0.out (fun h => h))
  have x0 := (Bx.of_block X1.out) 0 _ rfl
  have x1 := (Bx.of_block X1.out) 1 _ rfl
  have hsz1 : W.heap.size + 2 ≤ w1.heap.size := by have := f1.size; omega
  clear f1 X0 Y0 F0 S0
  have CM := Lib.hid (made_any a0 c0 la a1 c1 lp a2 c2 l' w1 (HA.out.keep F1.out (fun _ _ h => h)) (HP.out.keep F1.out (fun _ _ h => h)) (HC.out.keep F1.out (fun _ _ h => h)))
  unfold MadeEnd at CM
  go_upto_region 4 with fail
  clear hl4 hl5 HA HP
  go_wp2_with fail
  refine CM.out.mono ?_
  rintro e w4 ⟨v, y, u, z, rfl, hv, hu, hlk, hg, hsn, hv1, hv2, hv3, f4⟩
  have HV := Lib.hid hv
  have HU := Lib.hid hu
  have HL := Lib.hid (And.intro hlk (And.intro hg (And.intro hsn (And.intro hv1 (And.intro hv2 hv3)))))
  have F4 := Lib.hid (Gr.trans F1.out f4)
  have Y4 := Lib.hid (blk_keep f4 Y1.out (fun h => h))
  have q1 := hu.act.le
  have q2 := hu.act.max
  have q3 := hu.pas.le
  have q4 := hu.pas.max
  have q5 := hv.act.le
  have q6 := hv.act.max
  have q7 := hv.pas.le
  have q8 := hv.pas.max
  have hsz4 : W.heap.size + 2 ≤ w4.heap.size := by have := f4.size; omega
  clear hv hu hlk hg hsn hv1 hv2 hv3 f4 CM x0 x1 X1 Y1 F1
  go_wp2_with (refine wpList_storeW (b := w4.heap.size) (cs := viewZ) (vs := v.arr y) (by rw [heap_alloc_if, if_neg (by simp), heap_alloc_if, if_pos rfl]) (by rfl) 29 _ _ (by rfl) (by rfl) (by rfl) rfl Try.infoView (by rw [← Array.all_toList]; rfl) ?_)
  intro w5 f5' b5
  obtain ⟨w4', hw4'⟩ : ∃ w4', w4' = (w4.alloc (.cells viewZ 29)).alloc (.cells rwZ 51) := ⟨_, rfl⟩
  have g4' : Gr w4 w4' := by rw [hw4']; exact ((Fr.refl _ _).alloc _).alloc _
  have c4' : w4'.heap[w4.heap.size + 1]? = some (.cells rwZ 51 (0, 0)) := by rw [hw4', heap_alloc_if, if_pos (by simp)]
  have f5 : Fr (fun k => k = w4.heap.size) w4' w5 := by rw [hw4']; exact f5'
  have c5 := blk_keep f5 c4' (by omega)
  go_wp2_with (refine wpList_storeW (b := w4.heap.size + 1) (vs := rwArr u z l' a2 c2) c5 (by rfl) 51 _ _ (by rfl) (by rfl) (by rfl) rfl Try.infoRefView (by rw [← Array.all_toList]; rfl) ?_)
  intro w6 f6 b6
  have b5' := blk_keep f6 b5 (by omega)
  obtain ⟨q, hq⟩ : ∃ q, q = w4.heap.size := ⟨_, rfl⟩
  have hWq : W.heap.size + 2 ≤ q := by omega
  have hq4 : w4.heap.size ≤ q := by omega
  rw [← hq] at f5 b5' f6 b6 ⊢
  have G6 := Lib.hid (show Fr (fun k => q ≤ k) w4 w6 from FrB.b (FrB.b (FrB.gr (Fr.refl _ _) g4') f5 (Nat.le_refl q)) f6 (show q ≤ q + 1 by omega))
  have V6 := Lib.hid b5'
  have M6 := Lib.hid b6
  have HVk := Lib.hid (fun w (f : Fr (fun k => q ≤ k) w4 w) => HV.out.keepLt f hq4)
  have HUk := Lib.hid (fun w (f : Fr (fun k => q ≤ k) w4 w) => HU.out.keepGt f hq4)
  have FW := Lib.hid (fun w (f : Fr (fun k => q ≤ k) w4 w) => show Gr W w from Fr.trans F4.out f (fun k hk => .inr (by omega)))
  have Y6 := Lib.hid (G6.out.block _ (show W.heap.size + 1 < w4.heap.size by omega) (by omega) |>.trans Y4.out)
  have hs6 : q + 1 < w6.heap.size := (Array.getElem?_eq_some_iff.1 b6).1
  clear f5' b5 hw4' g4' c4' f5 c5 f6 b6 b5' hq Y4 F4 HU hz1 hz2 hzs hr1 hr2 hrs hsz0 hsz1 hsz4
  have CD := Lib.hid (fun w (f : Fr (fun k => q ≤ k) w4 w) => new_any a2 c2 l' w (HC.out.keep (FW.out w f) (fun _ _ h => h)) hb HR.out)
  go_upto_region 5 with fail
  go_wp2_with fail
  refine (CD.out w6 G6.out).mono ?_
  rintro e w7 ⟨d, rfl, hd3, hd4, bl7⟩
  obtain ⟨dp, hdp⟩ : ∃ dp, dp = Value.pointer (some ⟨d, 0, none⟩) := ⟨_, rfl⟩
  have g7 := Gr.of_below bl7
  have G7 := Lib.hid (FrB.gr G6.out g7)
  have V7 := Lib.hid (blk_keep g7 V6.out (fun h => h))
  have M7 := Lib.hid (blk_keep g7 M6.out (fun h => h))
  have Y7 := Lib.hid (blk_keep g7 Y6.out (fun h => h))
  have D7 := Lib.hid (show DrawV w7 dp l' from .inr ⟨d, hdp, hd4⟩)
  have HDD := Lib.hid (show ∃ d, dp = Value.pointer (some ⟨d, 0, none⟩) from ⟨d, hdp⟩)
  have HPD := Lib.hid (show ∀ k, pblk dp k → q + 1 < k from fun k hk => by rw [hdp] at hk; unfold pblk at hk; cases hk; omega)
  rw [← hdp]
  clear hd3 hd4 bl7 g7 G6 V6 M6 Y6 hdp
  have y0 := (Bx.of_block Y7.out) 0 _ rfl
  have y1 := (Bx.of_block Y7.out) 1 _ rfl
  obtain ⟨ig, hg1, hg2, hgs⟩ := info_pair Try.zeroSizes
  go_upto_region 6 with fail
  refine wp_region_lit ?_
  iterate 12 go_step
  refine wpList_bldSizes (by rfl) (by rfl) ?_
  refine wpList_fresh (vs := #[.int .i64 s0, .int .i64 s1]) hg1 hg2 Try.infoSizes (by rfl) (by rw [← Array.all_toList]; rfl) (by rfl) (by rfl) ?_
  intro w8 f8 b8 l8
  obtain ⟨g, hg⟩ : ∃ g, g = w7.heap.size := ⟨_, rfl⟩
  rw [← hg] at b8 l8 ⊢
  have G8 := Lib.hid (FrB.gr G7.out f8)
  have V8 := Lib.hid (blk_keep f8 V7.out (fun h => h))
  have M8 := Lib.hid (blk_keep f8 M7.out (fun h => h))
  have Y8 := Lib.hid (blk_keep f8 Y7.out (fun h => h))
  have D8 := Lib.hid (D7.out.keep f8)
  have S8 := Lib.hid b8
  have HPG := Lib.hid (show ¬ pblk dp g from fun hk => by have := D7.out.lt _ hk; omega)
  have hgq : q + 1 < g := by rw [hg]; have := (Array.getElem?_eq_some_iff.1 M7.out).1; omega
  clear f8 b8 l8 hg y0 y1 G7 V7 M7 Y7 D7 hs6 hg1 hg2 hgs
  have z0 := (Bx.of_block S8.out) 0 _ rfl
  have z1 := (Bx.of_block S8.out) 1 _ rfl
  have CS := Lib.hid (fun w (f : Fr (fun k => q ≤ k) w4 w) (hd : DrawV w dp l') => mixSample_any v y s0 s1 dp l' w (HVk.out w f) hd (VwSep.new HV.out (fun k hk => by have := HPD.out k hk; omega)) hs0 hs1)
  have CR := Lib.hid (fun dsx dax dcx w (h : RwAt w u z dsx dax dcx) (hr : ∀ x ∈ dsx, 0 ≤ x ∧ x < 4294967296) (hl : dsx.length ≤ 30) => refMixSample_any s0 s1 hs0 hs1 u z dsx dax dcx w h hr (by omega) v HL.out.1 HL.out.2.1)
  unfold SmpOut at CR
  unfold RowP at CS
  go_upto_region 7 with fail
  refine wp_region_lit ?_
  refine wpList_load_mid (by rfl) 29 _ (by rfl) q 0 (by rfl) (Array.toList (v.arr y)) _ (blk_range V8.out) Try.underlying29 rfl Try.infoView ?_
  go_wp2_with fail
  refine (CS.out _ G8.out D8.out).mono ?_
  rintro e w9 ⟨aT, cT, rfl, hT, -, hd9, f9⟩
  have G9 := Lib.hid (FrB.p G8.out f9 (fun k hk => by have := HPD.out k hk; omega))
  have V9 := Lib.hid (blk_keep f9 V8.out (fun hk => by have := HPD.out _ hk; omega))
  have M9 := Lib.hid (blk_keep f9 M8.out (fun hk => by have := HPD.out _ hk; omega))
  have Y9 := Lib.hid (blk_keep f9 Y8.out (fun hk => by have := HPD.out _ hk; omega))
  have S9 := Lib.hid (blk_keep f9 S8.out HPG.out)
  have D9 := Lib.hid hd9
  have T9 := Lib.hid hT
  clear hT hd9 f9 G8 V8 M8 Y8 D8 S8 CS z0 z1
  have y0 := (Bx.of_block Y9.out) 0 _ rfl
  have y1 := (Bx.of_block Y9.out) 1 _ rfl
  have CR1 := Lib.hid (CR.out l' a2 c2 w9 (HUk.out _ G9.out) HR.out hl1)
  generalize (mixS v s0 s1 l').1 = T at T9 CR1
  generalize (mixS v s0 s1 l').2 = d3 at D9 CR1
  go_upto_region 8 with fail
  refine wp_region_lit ?_
  refine wpList_load_mid (by rfl) 51 _ (by rfl) (q + 1) 0 (by rfl) (Array.toList (rwArr u z l' a2 c2)) _ (blk_range M9.out) Try.underlying51 rfl Try.infoRefView ?_
  go_wp2_with fail
  refine CR1.out.mono ?_
  rintro e w10 ⟨aR, cR, d3a, d3c, rfl, hR, -, -, -, f10⟩
  have G10 := Lib.hid (FrB.gr G9.out f10)
  have V10 := Lib.hid (blk_keep f10 V9.out (fun h => h))
  have M10 := Lib.hid (blk_keep f10 M9.out (fun h => h))
  have Y10 := Lib.hid (blk_keep f10 Y9.out (fun h => h))
  have S10 := Lib.hid (blk_keep f10 S9.out (fun h => h))
  have D10 := Lib.hid (D9.out.keep f10)
  have T10 := Lib.hid (T9.out.keep f10 (fun _ _ h => h))
  have R10 := Lib.hid hR
  clear hR f10 G9 V9 M9 Y9 S9 D9 T9 CR1 y0 y1
  go_wp2_with (refine wpList_storeW (b := w10.heap.size) (cs := rwZ) (vs := rwArr u z d3 d3a d3c) (by rw [heap_alloc_if, if_pos rfl]) (by rfl) 51 _ _ (by rfl) (by rfl) (by rfl) rfl Try.infoRefView (by rw [← Array.all_toList]; rfl) ?_)
  intro w11 f11' b11
  have f11 : Gr w10 w11 := fr_new ((Fr.refl (fun _ => False) w10).alloc _) f11' (Nat.le_refl _)
  obtain ⟨g2, hg2⟩ : ∃ g, g = w10.heap.size := ⟨_, rfl⟩
  rw [← hg2] at b11 ⊢
  have hgg : q + 1 < g2 := by rw [hg2]; have := (Array.getElem?_eq_some_iff.1 M10.out).1; omega
  have G11 := Lib.hid (FrB.gr G10.out f11)
  have V11 := Lib.hid (blk_keep f11 V10.out (fun h => h))
  have M11 := Lib.hid (blk_keep f11 M10.out (fun h => h))
  have Y11 := Lib.hid (blk_keep f11 Y10.out (fun h => h))
  have S11 := Lib.hid (blk_keep f11 S10.out (fun h => h))
  have D11 := Lib.hid (D10.out.keep f11)
  have T11 := Lib.hid (T10.out.keep f11 (fun _ _ h => h))
  have R11 := Lib.hid (R10.out.keep f11 (fun _ _ h => h))
  have Z11 := Lib.hid b11
  clear f11' f11 b11 hg2 G10 V10 M10 Y10 S10 D10 T10 R10
  go_upto_region 9 with fail
  have LE := Lib.hid (fun w (f : Gr w11 w) => leftV_any dp d3 w (D11.out.keep f) HDD.out)
  have SM := Lib.hid (fun w (f : Gr w11 w) => refSame_any aT cT T aR cR T w (T11.out.keep f (fun _ _ h => h)) (R11.out.keep f (fun _ _ h => h)))
  have hsm : same T T = true := (same_iff T T).2 rfl
  have hbb : ((d3.length : Int) != (d3.length : Int)) = false := by simp
  rw [hsm] at SM
  clear hsm
  haveI : Nonempty (WC (Gr w11)) := ⟨⟨w11, Fr.refl _ _⟩⟩
  have x5 : ∀ z' : WC (Gr w11), z'.val.cell? ⟨g2, 5, none⟩ = some (.slice d3a d3.length d3c) := fun z' => z'.ok.cell ((Bx.of_block Z11.out) 5 _ rfl) (fun h => h)
  go_cut [64] from 53 to 64 (fun c wx => c = .bool false ∧ Gr w11 wx)
  case first =>
    refine wp_region_plan [2, 6] (Plan.seq [0, 1, 2, 3, 4, 5, 6, 7, 8, 9, 10, 11] .done) (fun w' => ∃ z' : WC (Gr w11), w' = z'.val) (by kernel_rfl) (by kernel_rfl) (fun c a w d v h => by cases d <;> exact h) (fun c a w d v h => by cases d <;> exact h) ⟨⟨w11.drew, (Fr.refl _ _).drew⟩, rfl⟩ ?_
    simp only [Plan.seq, List.foldr]
    refine wpV_q (by simp only [List.getElem?_toArray, List.getElem?_cons_zero] <;> rfl) (by rfl) (by rfl) ?_
    go_big_quiet_step (fail)
    refine wpQuiet_nil ?_
    repeat (refine wpV_q (by simp only [List.getElem?_toArray, List.getElem?_cons_succ, List.getElem?_cons_zero] <;> rfl) (by rfl) (by rfl) ?_; go_big_quiet_step (fail); refine wpQuiet_nil ?_)
    refine wpV_e (by simp only [List.getElem?_toArray, List.getElem?_cons_succ, List.getElem?_cons_zero] <;> rfl) (by rfl) ?_
    go_wp2_with fail
    refine (SM.out _ ((Fr.refl _ _).drew)).mono ?_
    rintro e w12 ⟨rfl, q12, hq12⟩
    have F12 : Gr w11 w12 := by rw [hq12]; exact (Fr.refl _ _).drew.drewN q12
    clear hq12
    go_wp2_with fail
    refine ⟨⟨⟨w12, F12⟩, rfl⟩, ?_⟩
    repeat (refine wpV_q (by simp only [List.getElem?_toArray, List.getElem?_cons_succ, List.getElem?_cons_zero] <;> rfl) (by rfl) (by rfl) ?_; go_big_quiet_step (fail); refine wpQuiet_nil ?_)
    refine wpV_e (by simp only [List.getElem?_toArray, List.getElem?_cons_succ, List.getElem?_cons_zero] <;> rfl) (by rfl) ?_
    go_wp2_with fail
    refine (LE.out _ F12).mono ?_
    rintro e w13 ⟨rfl, hw13⟩
    have F13 : Gr w11 w13 := hw13 ▸ F12
    clear hw13
    go_wp2_with fail
    refine ⟨⟨⟨w13, F13⟩, rfl⟩, ?_⟩
    repeat (refine wpV_q (by simp only [List.getElem?_toArray, List.getElem?_cons_succ, List.getElem?_cons_zero] <;> rfl) (by rfl) (by rfl) ?_; go_big_quiet_step (fail); refine wpQuiet_nil ?_)
    refine wpV_done ?_
    have F14 := Lib.hid F13
    clear x5 this F12 F13
    go_wp2_with fail
    go_meet
    exact ⟨rfl, F14.out⟩
  case rest =>
    obtain ⟨rfl, g14⟩ := hcut
    generalize wc = w14 at *
    have G14 := Lib.hid (FrB.gr G11.out g14)
    have V14 := Lib.hid (blk_keep g14 V11.out (fun h => h))
    have M14 := Lib.hid (blk_keep g14 M11.out (fun h => h))
    have Y14 := Lib.hid (blk_keep g14 Y11.out (fun h => h))
    have S14 := Lib.hid (blk_keep g14 S11.out (fun h => h))
    clear g14 G11 V11 M11 Y11 S11 D11 T11 R11 Z11 LE SM hbb x5 this HDD HPD HPG
    go_upto_region 11 with fail
    go_wp2_with fail
    refine (CD.out w14 G14.out).mono ?_
    rintro e w15 ⟨d', rfl, hd3, hd4, bl7⟩
    obtain ⟨dp', hdp⟩ : ∃ dp, dp = Value.pointer (some ⟨d', 0, none⟩) := ⟨_, rfl⟩
    have g15 := Gr.of_below bl7
    have hm14 := (Array.getElem?_eq_some_iff.1 S14.out).1
    have G15 := Lib.hid (FrB.gr G14.out g15)
    have V15 := Lib.hid (blk_keep g15 V14.out (fun h => h))
    have M15 := Lib.hid (blk_keep g15 M14.out (fun h => h))
    have Y15 := Lib.hid (blk_keep g15 Y14.out (fun h => h))
    have S15 := Lib.hid (blk_keep g15 S14.out (fun h => h))
    have D15 := Lib.hid (show DrawV w15 dp' l' from .inr ⟨d', hdp, hd4⟩)
    have HPD := Lib.hid (show ∀ k, pblk dp' k → q + 1 < k ∧ k ≠ g from fun k hk => by rw [hdp] at hk; unfold pblk at hk; cases hk; omega)
    rw [← hdp]
    clear hd3 hd4 bl7 g15 G14 V14 M14 Y14 S14 hdp CD hm14
    have y2 := (Bx.of_block Y15.out) 2 _ rfl
    have z0 := (Bx.of_block S15.out) 0 _ rfl
    have z1 := (Bx.of_block S15.out) 1 _ rfl
    have CT := Lib.hid (mixStart_any v y s0 s1 s2 dp' l' w15 (HVk.out w15 G15.out) D15.out (VwSep.new HV.out (fun k hk => by have := HPD.out k hk; omega)) hs0 hs1)
    go_upto_region 12 with fail
    refine wp_region_lit ?_
    refine wpList_load_mid (by rfl) 29 _ (by rfl) q 0 (by rfl) (Array.toList (v.arr y)) _ (blk_range V15.out) Try.underlying29 rfl Try.infoView ?_
    go_wp2_with fail
    refine CT.out.mono ?_
    intro e w16 hst
    unfold StartEnd at hst
    by_cases he : v.act = []
    · rw [if_pos he] at hst
      obtain ⟨rfl, -, f16⟩ := hst
      have G16 := Lib.hid (FrB.p G15.out f16 (fun k hk => by have := HPD.out k hk; omega))
      have M16 := Lib.hid (blk_keep f16 M15.out (fun hk => by have := HPD.out _ hk; omega))
      have hu0 : (((u.act.length : Nat) : Int) == 0) = true := by
        have h9 := HL.out.1.act.length_eq
        rw [he] at h9
        rw [← h9]
        rfl
      have y1 := (Bx.of_block M16.out) 1 _ rfl
      clear f16 G15 V15 M15 Y15 S15 D15 CT CR y2 z0 z1 he
      go_wp2_with fail
      go_ret
      exact ⟨rfl, FW.out _ G16.out⟩
    · rw [if_neg he] at hst
      obtain ⟨go, aM, cM, rfl, hgo, bgo, hTM, hTMn, -, f16⟩ := hst
      have G16 := Lib.hid (FrB.p G15.out f16 (fun k hk => by have := HPD.out k hk; omega))
      have M16 := Lib.hid (blk_keep f16 M15.out (fun hk => by have := HPD.out _ hk; omega))
      have Y16 := Lib.hid (blk_keep f16 Y15.out (fun hk => by have := HPD.out _ hk; omega))
      have BO16 := Lib.hid bgo
      have TM16 := Lib.hid hTM
      have TMA := Lib.hid (fun q9 (hq9 : aM = some q9) => show q + 1 < q9.block by have h1 := hTMn q9 hq9; have h2 := (Array.getElem?_eq_some_iff.1 M15.out).1; omega)
      have hgo2 : q + 1 < go := by have := (Array.getElem?_eq_some_iff.1 S15.out).1; omega
      have hgoW : W.heap.size + 1 < go := by omega
      have hlu : u.act.length = v.act.length := HL.out.1.act.symm.length_eq
      have hlv : v.act.length ≤ 64 := HL.out.2.1.act.len
      have hlv0 : 0 < v.act.length := List.length_pos_iff.2 he
      have hu0 : (((u.act.length : Nat) : Int) == 0) = false := by rw [beq_eq_false_iff_ne]; omega
      have y1 := (Bx.of_block M16.out) 1 _ rfl
      have CSo := Lib.hid (fun w (f : Fr (fun k => q ≤ k) w4 w) => refSorted_sl z.aa z.ac u.act v.act w (HUk.out w f).act HL.out.1.act HL.out.2.1.act.le (by omega))
      have HE := Lib.hid he
      clear f16 G15 V15 M15 Y15 S15 D15 CT y2 z0 z1 bgo hTM hTMn he hlu hgq hgg
      go_upto_region 15 with fail
      go_wp2_with fail
      refine (CSo.out _ G16.out).mono ?_
      rintro e w17 ⟨aS, cS, rfl, hS, f17⟩
      have G17 := Lib.hid (FrB.gr G16.out f17)
      have M17 := Lib.hid (blk_keep f17 M16.out (fun h => h))
      have Y17 := Lib.hid (blk_keep f17 Y16.out (fun h => h))
      have BO17 := Lib.hid (blk_keep f17 BO16.out (fun h => h))
      have TM17 := Lib.hid (TM16.out.keep f17 (fun _ _ h => h))
      obtain ⟨bS, oS, rfl, hcS⟩ := hS.int 0 hlv0
      rw [Nat.add_zero] at hcS
      have hsl := hS.le
      clear f17 G16 M16 Y16 BO16 TM16 hS y1 hu0
      generalize hx0 : v.act[0] = xv0 at hcS
      have HX0 := Lib.hid hx0
      clear hx0
      have y1 := (Bx.of_block M17.out) 1 _ rfl
      obtain ⟨tw, htw⟩ : ∃ b : Bool, b = decide (1 < u.act.length ∧ 0 < l'.length) := ⟨_, rfl⟩
      have HTW := Lib.hid htw
      clear htw
      go_upto_region 16 with fail
      go_cut [93] from 85 to 93 (fun c wx => c = .bool tw ∧ w17 = wx)
      case first =>
        by_cases h1 : (1 : Int) < (u.act.length : Int)
        · by_cases h2 : (0 : Int) < (l'.length : Int)
          · have hd := Lib.hid (show tw = true by rw [HTW.out]; exact decide_eq_true ⟨by omega, by omega⟩)
            go_wp2_with fail
            go_meet
            exact ⟨by rw [hd.out, decide_eq_true (show 0 < l'.length by omega)], rfl⟩
          · have hd := Lib.hid (show tw = false by rw [HTW.out]; exact decide_eq_false (fun h => by omega))
            go_wp2_with fail
            go_meet
            exact ⟨by rw [hd.out, decide_eq_false (show ¬ 0 < l'.length by omega)], rfl⟩
        · have hd := Lib.hid (show tw = false by rw [HTW.out]; exact decide_eq_false (fun h => by omega))
          go_wp2_with fail
          go_meet
          exact ⟨by rw [hd.out], rfl⟩
      case rest =>
        obtain ⟨rfl, rfl⟩ := hcut
        clear hcS
        cases tw
        case false =>
          have ho := oneV_out (ds := l') (l := v.act) HE.out (by
            have h9 := of_decide_eq_false HTW.out.symm
            have h8 := HL.out.1.act.length_eq
            by_cases hl : l' = []
            · exact .inr (.inl hl)
            · have := List.length_pos_iff.2 hl; left; omega)
          rw [ho] at BO17 TM17
          have HX1 := Lib.hid (show v.act.getD 0 0 = xv0 by rw [← HX0.out, List.getD_eq_getElem?_getD, List.getElem?_eq_getElem hlv0]; rfl)
          simp only at BO17 TM17
          rw [HX1.out] at BO17
          have MX := Lib.hid M17.out
          have RA := Lib.hid (HUk.out _ G17.out)
          have CRX := Lib.hid (CR.out l' a2 c2 w17 RA.out HR.out hl1)
          clear M17 CSo HX0 HX1 ho HTW y1
          have y0 := (Bx.of_block Y17.out) 0 _ rfl
          have y1 := (Bx.of_block Y17.out) 1 _ rfl
          obtain ⟨T2, hT2⟩ : ∃ T2, T2 = (mixS v s0 s1 l').1 := ⟨_, rfl⟩
          rw [← hT2] at BO17 TM17 CRX
          generalize (mixS v s0 s1 l').2 = d9 at CRX
          have hv9 := HL.out.2.2.2.1
          clear hT2 CR
          go_upto_region 19 with fail
          refine wp_region_lit ?_
          refine wpList_load_mid (by rfl) 51 _ (by rfl) (q + 1) 0 (by rfl) (Array.toList (rwArr u z l' a2 c2)) _ (blk_range MX.out) Try.underlying51 rfl Try.infoRefView ?_
          go_wp2_with fail
          refine CRX.out.mono ?_
          rintro e w21 ⟨aW, cW, d9a, d9c, rfl, hW, -, -, -, f21⟩
          have G21 := Lib.hid (FrB.gr G17.out f21)
          have Y21 := Lib.hid (blk_keep f21 Y17.out (fun h => h))
          have BO21 := Lib.hid (blk_keep f21 BO17.out (fun h => h))
          have TM21 := Lib.hid (TM17.out.keep f21 (fun _ _ h => h))
          have TW21 := Lib.hid hW
          have t1 := TM21.out.le
          have t2 := TM21.out.max
          have t3 := hW.le
          have t4 := hW.max
          clear hW f21 G17 Y17 BO17 TM17 CRX y0 y1 MX RA
          have SQ := Lib.hid (fun w (f : Gr w21 w) => sameQ_any ⟨7, v.self, min (max s2 0) 15, false, T2⟩ aM aW cM cW w (TM21.out.keep f (fun _ _ h => h)) (TW21.out.keep f (fun _ _ h => h)))
          rw [hv9] at SQ BO21
          go_upto_region 20 with fail
          haveI : Nonempty (WC (Gr w21)) := ⟨⟨w21, Fr.refl _ _⟩⟩
          have y2 : ∀ z' : WC (Gr w21), z'.val.cell? ⟨W.heap.size + 1, 2, none⟩ = some (.int .i64 s2) := fun z' => z'.ok.cell ((Bx.of_block Y21.out) 2 _ rfl) (fun h => h)
          have o0 : ∀ z' : WC (Gr w21), z'.val.cell? ⟨go, 0, none⟩ = some (.int .i64 xv0) := fun z' => z'.ok.cell ((Bx.of_block BO21.out) 0 _ rfl) (fun h => h)
          have o1 : ∀ z' : WC (Gr w21), z'.val.cell? ⟨go, 1, none⟩ = some (.int .i64 7) := fun z' => z'.ok.cell ((Bx.of_block BO21.out) 1 _ rfl) (fun h => h)
          have o2 : ∀ z' : WC (Gr w21), z'.val.cell? ⟨go, 2, none⟩ = some (.int .i64 9) := fun z' => z'.ok.cell ((Bx.of_block BO21.out) 2 _ rfl) (fun h => h)
          have o3 : ∀ z' : WC (Gr w21), z'.val.cell? ⟨go, 3, none⟩ = some (.int .i64 (min (max s2 0) 15)) := fun z' => z'.ok.cell ((Bx.of_block BO21.out) 3 _ rfl) (fun h => h)
          have o4 : ∀ z' : WC (Gr w21), z'.val.cell? ⟨go, 4, none⟩ = some (.bool false) := fun z' => z'.ok.cell ((Bx.of_block BO21.out) 4 _ rfl) (fun h => h)
          have o5 : ∀ z' : WC (Gr w21), z'.val.cell? ⟨go, 5, none⟩ = some (.slice aM T2.length cM) := fun z' => z'.ok.cell ((Bx.of_block BO21.out) 5 _ rfl) (fun h => h)
          have o6 : ∀ z' : WC (Gr w21), z'.val.cell? ⟨go, 6, none⟩ = some (.slice none 0 0) := fun z' => z'.ok.cell ((Bx.of_block BO21.out) 6 _ rfl) (fun h => h)
          have o7 : ∀ z' : WC (Gr w21), z'.val.cell? ⟨go, 7, none⟩ = some (.slice none 0 0) := fun z' => z'.ok.cell ((Bx.of_block BO21.out) 7 _ rfl) (fun h => h)
          refine wp_region_lastO 24 [22] [] [0, 1, 2, 3, 4, 5, 6, 7, 8, 9, 10, 11, 12, 13, 14, 15, 16, 17, 18, 19, 20, 21, 22, 23] (fun w' => ∃ z' : WC (Gr w21), w' = z'.val) (by kernel_rfl) (by kernel_rfl) (fun c a w d v h => by cases d <;> exact h) (fun c a w d v h => by cases d <;> exact h) ⟨⟨w21.drew, (Fr.refl _ _).drew⟩, rfl⟩ ?_
          simp only [List.take]
          refine wpT_q (by simp only [List.getElem?_toArray, List.getElem?_cons_zero] <;> rfl) (by rfl) (by rfl) ?_
          go_big_quiet_step (fail)
          refine wpQuiet_nil ?_
          repeat (refine wpT_q (by simp only [List.getElem?_toArray, List.getElem?_cons_succ, List.getElem?_cons_zero] <;> rfl) (by rfl) (by rfl) ?_; go_big_quiet_step (fail); refine wpQuiet_nil ?_)
          refine wpT_e (by simp only [List.getElem?_toArray, List.getElem?_cons_succ, List.getElem?_cons_zero] <;> rfl) (by rfl) ?_
          go_wp2_with fail
          refine (SQ.out _ ((Fr.refl _ _).drew)).mono ?_
          rintro e w22 ⟨rfl, f22⟩
          have F22 := Lib.hid (show Gr w21 w22 from Gr.trans ((Fr.refl _ _).drew) f22)
          go_wp2_with fail
          refine ⟨⟨⟨w22, F22.out⟩, rfl⟩, ?_⟩
          repeat (refine wpT_q (by simp only [List.getElem?_toArray, List.getElem?_cons_succ, List.getElem?_cons_zero] <;> rfl) (by rfl) (by rfl) ?_; go_big_quiet_step (fail); refine wpQuiet_nil ?_)
          clear o0 o1 o2 o3 o4 o5 o6 o7 y2 this f22
          refine wpT_nil ?_
          simp only [lastQ, List.drop]
          go_wp2_with fail
          go_ret
          exact ⟨rfl, FW.out _ (FrB.gr G21.out F22.out)⟩
        case true =>
          have hdc := of_decide_eq_true HTW.out.symm
          have hlu : u.act.length = v.act.length := HL.out.1.act.symm.length_eq
          obtain ⟨c, r, rfl⟩ : ∃ c r, l' = c :: r := by
            cases l' with
            | nil => exact absurd hdc.2 (by simp)
            | cons c r => exact ⟨c, r, rfl⟩
          have hcr := HR.out c (by simp)
          have hv2 : 2 ≤ v.act.length := by omega
          have ho := oneV_in (c := c) (r := r) (l := v.act) hv2 hlv
          obtain ⟨k, hk⟩ : ∃ k : Nat, c % (v.act.length : Int) = (k : Int) := ⟨(c % (v.act.length : Int)).toNat, by have := Int.emod_nonneg c (show (v.act.length : Int) ≠ 0 by omega); omega⟩
          have hkl : k < v.act.length := by have := Int.emod_lt_of_pos c (show 0 < (v.act.length : Int) by omega); omega
          rw [hk] at ho
          have hget : v.act.getD (k : Int).toNat 0 = v.act[k] := by rw [Int.toNat_natCast, List.getD_eq_getElem?_getD, List.getElem?_eq_getElem hkl]; rfl
          rw [hget] at ho
          rw [ho] at BO17 TM17
          simp only at BO17 TM17
          have htm : c.tmod (u.act.length : Int) = (k : Int) := by rw [hlu, Int.tmod_eq_emod_of_nonneg hcr.1]; exact hk
          have hku : k < u.act.length := by omega
          obtain ⟨bd, od, rfl, hcd⟩ := HC.out.cell 0 (.int .u32 c) rfl
          rw [Nat.add_zero] at hcd
          have hbd : bd < W.heap.size := lt_of_cell hcd
          have hc17 := (FW.out _ G17.out).cell hcd (fun h => h)
          generalize hxk : v.act[k] = xk at *
          have HXK := Lib.hid hxk
          have hun0 : ((u.act.length : Int) == 0) = false := by rw [beq_eq_false_iff_ne]; omega
          have hll : (0 : Int) < (((c :: r).length : Nat) : Int) := by simp only [List.length_cons]; omega
          clear HX0 HTW hdc ho hget hk hcd hxk y1 hlu
          haveI : Nonempty (WC (Gr w17)) := ⟨⟨w17, Fr.refl _ _⟩⟩
          have m1 : ∀ z' : WC (Gr w17), z'.val.cell? ⟨q + 1, 1, none⟩ = some (.slice z.aa u.act.length z.ac) := fun z' => z'.ok.cell ((Bx.of_block M17.out) 1 _ rfl) (fun h => h)
          have d1 : ∀ z' : WC (Gr w17), z'.val.cell? ⟨bd, od, none⟩ = some (.int .u32 c) := fun z' => z'.ok.cell hc17 (fun h => h)
          go_upto_region 17 with fail
          go_cut [16] from 94 to 106 (fun tv wx => tv = .int .i64 xk ∧ Gr w17 wx)
          case first =>
            refine wp_region_lastO 13 [2, 12] [] [0, 1, 2, 3, 4, 5, 6, 7, 8, 9, 10, 11, 12] (fun w' => ∃ z' : WC (Gr w17), w' = z'.val) (by kernel_rfl) (by kernel_rfl) (fun c a w d v h => by cases d <;> exact h) (fun c a w d v h => by cases d <;> exact h) ⟨⟨w17.drew, (Fr.refl _ _).drew⟩, rfl⟩ ?_
            simp only [List.take]
            refine wpT_q (by simp only [List.getElem?_toArray, List.getElem?_cons_zero] <;> rfl) (by rfl) (by rfl) ?_
            go_big_quiet_step (fail)
            refine wpQuiet_nil ?_
            repeat (refine wpT_q (by simp only [List.getElem?_toArray, List.getElem?_cons_succ, List.getElem?_cons_zero] <;> rfl) (by rfl) (by rfl) ?_; go_big_quiet_step (fail); refine wpQuiet_nil ?_)
            refine wpT_e (by simp only [List.getElem?_toArray, List.getElem?_cons_succ, List.getElem?_cons_zero] <;> rfl) (by rfl) ?_
            go_wp2_with fail
            refine (CSo.out _ (FrB.gr G17.out ((Fr.refl _ _).drew))).mono ?_
            rintro e w18 ⟨aZ, cZ, rfl, hZ, f18⟩
            have F18 := Lib.hid (show Gr w17 w18 from Gr.trans ((Fr.refl _ _).drew) f18)
            obtain ⟨bZ, oZ, rfl, hcZ⟩ := hZ.int k hkl
            rw [HXK.out] at hcZ
            have hZl := hZ.le
            have hZm := hZ.max
            clear f18 hZ CSo
            go_wp2_with fail
            refine ⟨⟨⟨w18, F18.out⟩, rfl⟩, ?_⟩
            repeat (refine wpT_q (by simp only [List.getElem?_toArray, List.getElem?_cons_succ, List.getElem?_cons_zero] <;> rfl) (by rfl) (by rfl) ?_; go_big_quiet_step (fail); refine wpQuiet_nil ?_)
            refine wpT_e (by simp only [List.getElem?_toArray, List.getElem?_cons_succ, List.getElem?_cons_zero] <;> rfl) (by rfl) ?_
            go_wp2_with fail
            refine ⟨⟨⟨w18, F18.out⟩, rfl⟩, ?_⟩
            clear m1 d1 this
            refine wpT_nil ?_
            simp only [lastQ, List.drop]
            go_wp2_with fail
            go_meet
            exact ⟨rfl, F18.out⟩
          case rest =>
            obtain ⟨rfl, g18⟩ := hcut
            generalize wc = w18 at *
            have G18 := Lib.hid (FrB.gr G17.out g18)
            have M18 := Lib.hid (blk_keep g18 M17.out (fun h => h))
            have Y18 := Lib.hid (blk_keep g18 Y17.out (fun h => h))
            have BO18 := Lib.hid (blk_keep g18 BO17.out (fun h => h))
            have TM18 := Lib.hid (TM17.out.keep g18 (fun _ _ h => h))
            have HD18 := Lib.hid (HC.out.keep (FW.out _ G18.out) (fun _ _ h => h))
            clear g18 G17 M17 Y17 BO17 TM17 m1 d1 this CSo htm hku hun0 hc17 HXK
            have hl1' : r.length ≤ 29 := by simp only [List.length_cons] at hl1; omega
            have he7 : r.length + 1 ≤ c2 := by simpa using e7
            have yc := (Bx.of_block M18.out) 5 _ rfl
            have zc := Lib.frozen_of_heap M18.out 5
            go_upto_region 18 with fail
            go_cut [16] from 107 to 109 (fun tv wx => tv = .int .i64 xk ∧ ∃ da dc, wx.heap[q + 1]? = some (.cells (rwArr u z r da dc) 51 (0, 0)) ∧ SlA w18 da r.length dc (r.map (Value.int .u32)) ∧ (r ≠ [] → ∀ p, da = some p → p.block < W.heap.size) ∧ Fr (fun k => k = q + 1) w18 wx)
            case first =>
              by_cases hc2 : c2 = 1
              · subst hc2
                obtain rfl : r = [] := List.eq_nil_of_length_eq_zero (by omega)
                go_wp2_with fail
                go_meet
                exact ⟨rfl, some ⟨bd, od, none⟩, 0, blk_set1 M18.out 5 _, ⟨Nat.le_refl _, by omega, fun j u hj => by simp at hj⟩, fun h => absurd rfl h, (Fr.refl (fun k => k = q + 1) _).setCell (p := ⟨q + 1, 5, none⟩) (.inl rfl) _⟩
              · have hc3 : 1 < c2 := by omega
                go_wp2_with fail
                go_meet
                refine ⟨rfl, some ⟨bd, od + 1, none⟩, c2 - 1, ?_, ⟨by omega, by omega, fun j x hj => ?_⟩, fun _ p hp => by cases hp; exact hbd, (Fr.refl (fun k => k = q + 1) _).setCell (p := ⟨q + 1, 5, none⟩) (.inl rfl) _⟩
                · exact blk_set1 M18.out 5 _
                · obtain ⟨b9, o9, e9, hc9⟩ := HD18.out.cell (j + 1) x (by simpa using hj)
                  cases e9
                  exact ⟨bd, od + 1, rfl, by rw [show od + 1 + j = od + (j + 1) by omega]; exact hc9⟩
            case rest =>
              obtain ⟨rfl, dax, dcx, hm9, hd9', hlt9, f19⟩ := hcut
              generalize wc = w19 at *
              have G17 := Lib.hid (FrB.b G18.out f19 (show q ≤ q + 1 by omega))
              have MX := Lib.hid hm9
              have Y17 := Lib.hid (blk_keep f19 Y18.out (by omega))
              have BO17 := Lib.hid (blk_keep f19 BO18.out (by omega))
              have TM17 := Lib.hid (TM18.out.keep f19 (fun q9 hq9 he => by have := TMA.out q9 hq9; omega))
              have hdl : SlA w19 dax r.length dcx (r.map (Value.int .u32)) := by
                by_cases hr0 : r = []
                · subst hr0; exact ⟨hd9'.le, hd9'.max, fun j x hj => by simp at hj⟩
                · exact hd9'.keep f19 (fun p hp hk => by have := hlt9 hr0 p hp; omega)
              have RA := Lib.hid (show RwAt w19 u z r dax dcx from ⟨(HUk.out _ G17.out).act, (HUk.out _ G17.out).pas, hdl⟩)
              have CRX := Lib.hid (CR.out r dax dcx w19 RA.out (fun x hx => HR.out x (by simp [hx])) (by omega))
              clear hm9 hd9' hlt9 f19 hdl G18 M18 Y18 BO18 TM18 HD18 HC yc zc
              have y0 := (Bx.of_block Y17.out) 0 _ rfl
              have y1 := (Bx.of_block Y17.out) 1 _ rfl
              obtain ⟨T2, hT2⟩ : ∃ T2, T2 = (mixS v s0 s1 r).1 := ⟨_, rfl⟩
              rw [← hT2] at BO17 TM17 CRX
              generalize (mixS v s0 s1 r).2 = d9 at CRX
              have hv9 := HL.out.2.2.2.1
              clear hT2 CR
              go_upto_region 19 with fail
              refine wp_region_lit ?_
              refine wpList_load_mid (by rfl) 51 _ (by rfl) (q + 1) 0 (by rfl) (Array.toList (rwArr u z r dax dcx)) _ (blk_range MX.out) Try.underlying51 rfl Try.infoRefView ?_
              go_wp2_with fail
              refine CRX.out.mono ?_
              rintro e w21 ⟨aW, cW, d9a, d9c, rfl, hW, -, -, -, f21⟩
              have G21 := Lib.hid (FrB.gr G17.out f21)
              have Y21 := Lib.hid (blk_keep f21 Y17.out (fun h => h))
              have BO21 := Lib.hid (blk_keep f21 BO17.out (fun h => h))
              have TM21 := Lib.hid (TM17.out.keep f21 (fun _ _ h => h))
              have TW21 := Lib.hid hW
              have t1 := TM21.out.le
              have t2 := TM21.out.max
              have t3 := hW.le
              have t4 := hW.max
              clear hW f21 G17 Y17 BO17 TM17 CRX y0 y1 MX RA
              have SQ := Lib.hid (fun w (f : Gr w21 w) => sameQ_any ⟨7, v.self, min (max s2 0) 15, false, T2⟩ aM aW cM cW w (TM21.out.keep f (fun _ _ h => h)) (TW21.out.keep f (fun _ _ h => h)))
              rw [hv9] at SQ BO21
              go_upto_region 20 with fail
              haveI : Nonempty (WC (Gr w21)) := ⟨⟨w21, Fr.refl _ _⟩⟩
              have y2 : ∀ z' : WC (Gr w21), z'.val.cell? ⟨W.heap.size + 1, 2, none⟩ = some (.int .i64 s2) := fun z' => z'.ok.cell ((Bx.of_block Y21.out) 2 _ rfl) (fun h => h)
              have o0 : ∀ z' : WC (Gr w21), z'.val.cell? ⟨go, 0, none⟩ = some (.int .i64 xk) := fun z' => z'.ok.cell ((Bx.of_block BO21.out) 0 _ rfl) (fun h => h)
              have o1 : ∀ z' : WC (Gr w21), z'.val.cell? ⟨go, 1, none⟩ = some (.int .i64 7) := fun z' => z'.ok.cell ((Bx.of_block BO21.out) 1 _ rfl) (fun h => h)
              have o2 : ∀ z' : WC (Gr w21), z'.val.cell? ⟨go, 2, none⟩ = some (.int .i64 9) := fun z' => z'.ok.cell ((Bx.of_block BO21.out) 2 _ rfl) (fun h => h)
              have o3 : ∀ z' : WC (Gr w21), z'.val.cell? ⟨go, 3, none⟩ = some (.int .i64 (min (max s2 0) 15)) := fun z' => z'.ok.cell ((Bx.of_block BO21.out) 3 _ rfl) (fun h => h)
              have o4 : ∀ z' : WC (Gr w21), z'.val.cell? ⟨go, 4, none⟩ = some (.bool false) := fun z' => z'.ok.cell ((Bx.of_block BO21.out) 4 _ rfl) (fun h => h)
              have o5 : ∀ z' : WC (Gr w21), z'.val.cell? ⟨go, 5, none⟩ = some (.slice aM T2.length cM) := fun z' => z'.ok.cell ((Bx.of_block BO21.out) 5 _ rfl) (fun h => h)
              have o6 : ∀ z' : WC (Gr w21), z'.val.cell? ⟨go, 6, none⟩ = some (.slice none 0 0) := fun z' => z'.ok.cell ((Bx.of_block BO21.out) 6 _ rfl) (fun h => h)
              have o7 : ∀ z' : WC (Gr w21), z'.val.cell? ⟨go, 7, none⟩ = some (.slice none 0 0) := fun z' => z'.ok.cell ((Bx.of_block BO21.out) 7 _ rfl) (fun h => h)
              refine wp_region_lastO 24 [22] [] [0, 1, 2, 3, 4, 5, 6, 7, 8, 9, 10, 11, 12, 13, 14, 15, 16, 17, 18, 19, 20, 21, 22, 23] (fun w' => ∃ z' : WC (Gr w21), w' = z'.val) (by kernel_rfl) (by kernel_rfl) (fun c a w d v h => by cases d <;> exact h) (fun c a w d v h => by cases d <;> exact h) ⟨⟨w21.drew, (Fr.refl _ _).drew⟩, rfl⟩ ?_
              simp only [List.take]
              refine wpT_q (by simp only [List.getElem?_toArray, List.getElem?_cons_zero] <;> rfl) (by rfl) (by rfl) ?_
              go_big_quiet_step (fail)
              refine wpQuiet_nil ?_
              repeat (refine wpT_q (by simp only [List.getElem?_toArray, List.getElem?_cons_succ, List.getElem?_cons_zero] <;> rfl) (by rfl) (by rfl) ?_; go_big_quiet_step (fail); refine wpQuiet_nil ?_)
              refine wpT_e (by simp only [List.getElem?_toArray, List.getElem?_cons_succ, List.getElem?_cons_zero] <;> rfl) (by rfl) ?_
              go_wp2_with fail
              refine (SQ.out _ ((Fr.refl _ _).drew)).mono ?_
              rintro e w22 ⟨rfl, f22⟩
              have F22 := Lib.hid (show Gr w21 w22 from Gr.trans ((Fr.refl _ _).drew) f22)
              go_wp2_with fail
              refine ⟨⟨⟨w22, F22.out⟩, rfl⟩, ?_⟩
              repeat (refine wpT_q (by simp only [List.getElem?_toArray, List.getElem?_cons_succ, List.getElem?_cons_zero] <;> rfl) (by rfl) (by rfl) ?_; go_big_quiet_step (fail); refine wpQuiet_nil ?_)
              clear o0 o1 o2 o3 o4 o5 o6 o7 y2 this f22
              refine wpT_nil ?_
              simp only [lastQ, List.drop]
              go_wp2_with fail
              go_ret
              exact ⟨rfl, FW.out _ (FrB.gr G21.out F22.out)⟩
end Go.Proofs.Ytdpnkikaciigoaa
