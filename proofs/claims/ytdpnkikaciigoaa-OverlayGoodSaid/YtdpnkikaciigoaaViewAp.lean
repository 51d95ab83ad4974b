/-
  Views in variables; the first lines of layer 9's laws.
-/
import Derived.Test.YtdpnkikaciigoaaViewOps
namespace Go.Proofs.Ytdpnkikaciigoaa
open Go.RowKit Go.Proofs

/-- a view's rows that hold something lie outside of S -/
def VwApart (S : Nat → Prop) (v : Vw) (y : VwP) : Prop := (v.act ≠ [] → ∀ q, y.aa = some q → ¬ S q.block) ∧ (v.pas ≠ [] → ∀ q, y.pa = some q → ¬ S q.block)
theorem SlA.keepNE {S : Nat → Prop} {w w' : World} {a : Option Addr} {n cap : Nat} {l : List Int} (h : SlA w a n cap (ints l)) (f : Fr S w w') (hS : l ≠ [] → ∀ p, a = some p → ¬ S p.block) : SlA w' a n cap (ints l) := by
  by_cases hl : l = []
  · subst hl
    exact ⟨h.le, h.max, fun j u hj => by simp at hj⟩
  · exact h.keep f (hS hl)
theorem VwAt.keepA {S : Nat → Prop} {w w' : World} {v : Vw} {y : VwP} (h : VwAt w v y) (f : Fr S w w') (a : VwApart S v y) : VwAt w' v y := ⟨h.act.keepNE f a.1, h.pas.keepNE f a.2, h.good⟩
theorem SlA.ltNE {w : World} {a : Option Addr} {n cap : Nat} {l : List Int} (h : SlA w a n cap (ints l)) (hl : l ≠ []) : ∀ q, a = some q → q.block < w.heap.size := by
  intro q hq
  obtain ⟨b, o, e, hlt⟩ := h.lt (by cases l with | nil => exact absurd rfl hl | cons x r => simp)
  rw [e] at hq
  cases hq
  exact hlt
theorem VwApart.new {S : Nat → Prop} {w : World} {v : Vw} {y : VwP} (h : VwAt w v y) (hS : ∀ k, S k → w.heap.size ≤ k) : VwApart S v y :=
  ⟨fun hl q hq hs => by have := h.act.ltNE hl q hq; have := hS _ hs; omega, fun hl q hq hs => by have := h.pas.ltNE hl q hq; have := hS _ hs; omega⟩
theorem VwApart.next {S : Nat → Prop} {w : World} {v v' : Vw} {y y' : VwP} (h : VwApart S v y) (k : VwFrom w v y v' y') (hS : ∀ k, S k → k < w.heap.size) : VwApart S v' y' :=
  ⟨fun hl q hq hs => by
    rcases k.1 q hq with h1 | h1
    · exact h.1 (by rw [← h1.2]; exact hl) q h1.1 hs
    · have := hS _ hs; omega, fun hl q hq hs => by
    rcases k.2 q hq with h1 | h1
    · exact h.2 (by rw [← h1.2]; exact hl) q h1.1 hs
    · have := hS _ hs; omega⟩
theorem VwApart.none (S : Nat → Prop) (v : Vw) : VwApart S v vwNone := by
  constructor <;> (intro _ q h; cases h)
theorem gr_of_pnone {w w' : World} (f : Fr (pblk (.pointer none)) w w') : Gr w w' := f.mono (fun k _ h => by unfold pblk at h; cases h)

set_option maxHeartbeats 4000000 in
set_option maxRecDepth 100000 in
theorem speaks09_any (W : World) : Calls Try.prog 24 #[] W fun e w' => e = .returned (.bool true) ∧ Gr W w' := by
  obtain ⟨iz, hz1, hz2, hzs⟩ := info_pair Try.zeroView
  obtain ⟨va, hva⟩ : ∃ v : Vw, v = ⟨1, [2], 2, [], 2⟩ := ⟨_, rfl⟩
  obtain ⟨vb, hvb⟩ : ∃ v : Vw, v = ⟨1, [], 2, [2], 2⟩ := ⟨_, rfl⟩
  have J1 : vJoin (vwNew 1 2 2) 2 = va := by rw [hva]; rfl
  have J2 : vJoinOk (vwNew 1 2 2) 2 = true := by rfl
  have E1 : vEvict va [] = (vb, 2, true, []) := by rw [hva, hvb]; rfl
  have K1 : vJoin vb 1 = vb := by rw [hvb]; rfl
  have K2 : vJoinOk vb 1 = false := by rw [hvb]; rfl
  have S1 : vSane vb = true := by rw [hvb]; rfl
  have N1 : has vb.pas 2 = true := by rw [hvb]; rfl
  have N2 : vb.act.length = 0 := by rw [hvb]; rfl
  have C1 := Lib.hid (viewNew_any 1 2 2 W)
  have CJ := Lib.hid (fun w => viewJoin_any (vwNew 1 2 2) vwNone 2 w (vwNone_at w 1 2 2))
  unfold VEnd0 at CJ
  rw [J1, J2] at CJ
  have CE := Lib.hid (fun y w (h : VwAt w va y) => viewEvict_any va y (.pointer none) [] w h (DrawV.nil w) VwSep.none)
  unfold VEnd at CE
  rw [E1] at CE
  have CK := Lib.hid (fun y w (h : VwAt w vb y) => viewJoin_any vb y 1 w h)
  unfold VEnd0 at CK
  rw [K1, K2] at CK
  have CS := Lib.hid (fun y w (h : VwAt w vb y) => viewSane_any vb y w h)
  rw [S1] at CS
  have CH := Lib.hid (fun (y : VwP) w (h : VwAt w vb y) => setHas_any y.pa y.pc vb.pas vb.pm 2 w h.pas h.good.pas)
  rw [N1] at CH
  have CL := Lib.hid (fun (y : VwP) w => show Calls Try.prog 23 #[setV y.aa vb.act.length y.ac vb.am] w fun e w' => e = .returned (.int .i64 0) ∧ Gr w w' from (setLen_any y.aa vb.act.length y.ac vb.am w).mono (by rintro e w' ⟨rfl, g⟩; rw [N2]; exact ⟨rfl, g⟩))
  clear J1 J2 E1 K1 K2 S1 N1 N2 hva hvb
  go_enter Try.func24, Try.ntmps24
  go_wp2_with fail
  refine C1.out.mono ?_
  rintro e w1 ⟨rfl, f1⟩
  have F1 := Lib.hid f1
  clear f1 C1
  go_wp2_with fail
  refine (CJ.out w1).mono ?_
  rintro e w2 ⟨y, rfl, h2, f2, -⟩
  have F2 := Lib.hid (Gr.trans F1.out f2)
  have H2 := Lib.hid h2
  clear f2 h2 F1 CJ
  go_wp2_with (refine wpList_fresh (vs := va.arr y) hz1 hz2 Try.infoView (by rfl) (by rw [← Array.all_toList]; rfl) (by rfl) (by rfl) ?_)
  intro w3 f3 b3 l3
  have F3 := Lib.hid (Gr.trans F2.out f3)
  obtain ⟨q, hq⟩ : ∃ q, q = w2.heap.size := ⟨_, rfl⟩
  rw [← hq] at b3 l3 ⊢
  have B3 := Lib.hid b3
  have H3 := Lib.hid (H2.out.gr f3)
  have AP := Lib.hid (VwApart.new (S := fun k => k = q) H2.out (fun k h => by omega))
  have hWq : W.heap.size ≤ q := by rw [hq]; exact F2.out.size
  clear f3 b3 hq H2 F2
  go_upto_region 2 with fail
  refine wp_region_lit ?_
  refine wpList_load_mid (by rfl) 29 _ (by rfl) q 0 (by rfl) (Array.toList (va.arr y)) _ (blk_range B3.out) Try.underlying29 rfl Try.infoView ?_
  go_wp2_with fail
  refine (CE.out y w3 H3.out).mono ?_
  rintro e w4 ⟨y', rfl, h4, -, f4, k4⟩
  replace f4 := gr_of_pnone f4
  have B4 := Lib.hid (blk_keep f4 B3.out (fun h => h))
  have F4 := Lib.hid (Gr.trans F3.out f4)
  have H4 := Lib.hid h4
  have AP4 := Lib.hid (AP.out.next k4 (fun k h => by omega))
  clear f4 h4 k4 B3 F3 H3 AP CE
  go_wp2_with (refine wpList_storeW (vs := vb.arr y') B4.out (by rfl) 29 _ _ (by rfl) (by rfl) (by rfl) rfl Try.infoView (by rw [← Array.all_toList]; rfl) ?_)
  intro w5 f5 b5
  have F5 := Lib.hid (fr_new F4.out f5 hWq)
  have B5 := Lib.hid b5
  have H5 := Lib.hid (H4.out.keepA f5 AP4.out)
  clear f5 b5 F4 B4 H4 AP4
  go_upto_region 3 with fail
  refine wp_region_lit ?_
  refine wpList_load_mid (by rfl) 29 _ (by rfl) q 0 (by rfl) (Array.toList (vb.arr y')) _ (blk_range B5.out) Try.underlying29 rfl Try.infoView ?_
  go_wp2_with fail
  refine (CK.out y' w5 H5.out).mono ?_
  rintro e w6 ⟨z, rfl, h6, f6, -⟩
  have B6 := Lib.hid (blk_keep f6 B5.out (fun h => h))
  have F6 := Lib.hid (Gr.trans F5.out f6)
  have H6 := Lib.hid (H5.out.gr f6)
  clear f6 h6 B5 F5 H5 CK
  go_wp2_with (refine wpList_fresh (vs := vb.arr z) hz1 hz2 Try.infoView (by rfl) (by rw [← Array.all_toList]; rfl) (by rfl) (by rfl) ?_)
  intro w7 f7 b7 l7
  have B7 := Lib.hid (blk_keep f7 B6.out (fun h => h))
  have F7 := Lib.hid (Gr.trans F6.out f7)
  have H7 := Lib.hid (H6.out.gr f7)
  clear f7 b7 l7 B6 F6 H6
  have y1 := (Bx.of_block B7.out) 1 _ rfl
  have y2 := (Bx.of_block B7.out) 2 _ rfl
  have y3 := (Bx.of_block B7.out) 3 _ rfl
  have y4 := (Bx.of_block B7.out) 4 _ rfl
  have y0 := (Bx.of_block B7.out) 0 _ rfl
  go_wp2_with fail
  refine (CH.out y' w7 H7.out).mono ?_
  rintro e w8 ⟨rfl, f8⟩
  have F8 := Lib.hid (Gr.trans F7.out f8)
  have H8 := Lib.hid (H7.out.gr f8)
  replace y0 := f8.cell y0 (fun h => h)
  replace y1 := f8.cell y1 (fun h => h)
  replace y2 := f8.cell y2 (fun h => h)
  replace y3 := f8.cell y3 (fun h => h)
  replace y4 := f8.cell y4 (fun h => h)
  clear f8 F7 H7 CH
  go_wp2_with fail
  refine (CL.out y' w8).mono ?_
  rintro e w9 ⟨rfl, f9⟩
  have F9 := Lib.hid (Gr.trans F8.out f9)
  have H9 := Lib.hid (H8.out.gr f9)
  replace y0 := f9.cell y0 (fun h => h)
  replace y1 := f9.cell y1 (fun h => h)
  replace y2 := f9.cell y2 (fun h => h)
  replace y3 := f9.cell y3 (fun h => h)
  replace y4 := f9.cell y4 (fun h => h)
  clear f9 F8 H8 CL
  go_wp2_with fail
  refine (CS.out y' w9 H9.out).mono ?_
  rintro e w10 ⟨rfl, f10⟩
  have FX := Lib.hid (Gr.trans F9.out f10)
  clear f10 F9 H9 CS y0 y1 y2 y3 y4
  go_wp2_with fail
  go_ret
  exact ⟨rfl, FX.out⟩
end Go.Proofs.Ytdpnkikaciigoaa
