/-
  The first lines of layer 12's laws.
-/
import Derived.Test.YtdpnkikaciigoaaMixStart
import Derived.Test.YtdpnkikaciigoaaViewEv
import Derived.Test.YtdpnkikaciigoaaSetRef
namespace Go.Proofs.Ytdpnkikaciigoaa
open Go.RowKit Go.Proofs

set_option maxHeartbeats 4000000 in
set_option maxRecDepth 100000 in
theorem speaks12_any (W : World) : Calls Try.prog 40 #[] W fun e w' => e = .returned (.bool true) ∧ Gr W w' := by
  obtain ⟨iz, hz1, hz2, hzs⟩ := info_pair Try.zeroView
  obtain ⟨va, hva⟩ : ∃ v : Vw, v = ⟨1, [2], 2, [], 2⟩ := ⟨_, rfl⟩
  obtain ⟨vb, hvb⟩ : ∃ v : Vw, v = ⟨1, [2], 2, [3], 2⟩ := ⟨_, rfl⟩
  have J1 : vJoin (vwNew 1 2 2) 2 = va := by rw [hva]; rfl
  have K1 : (vKnow va 3 []) = (vb, []) := by rw [hva, hvb]; rfl
  have M1 : mixS vb 5 5 [] = ([1, 2, 3], []) := by rw [hvb]; rfl
  have A1 : oneV [] vb.act = (2, true, []) := by rw [hvb]; rfl
  have M2 : mixS vb 0 0 [] = ([1], []) := by rw [hvb]; rfl
  have A2 : ¬ vb.act = [] := by rw [hvb]; simp
  have C1 := Lib.hid (viewNew_any 1 2 2 W)
  have CJ := Lib.hid (fun w => viewJoin_any (vwNew 1 2 2) vwNone 2 w (vwNone_at w 1 2 2))
  unfold VEnd0 at CJ
  rw [J1] at CJ
  have CK := Lib.hid (fun y w (h : VwAt w va y) => viewKnow_any va y 3 (.pointer none) [] w h (DrawV.nil w) VwSep.none)
  unfold VEnd at CK
  rw [K1] at CK
  have CM := Lib.hid (fun y w (h : VwAt w vb y) => mixSample_any vb y 5 5 (.pointer none) [] w h (DrawV.nil w) VwSep.none (by omega) (by omega))
  unfold RowP at CM
  rw [M1] at CM
  have CS := Lib.hid (fun y w (h : VwAt w vb y) => show Calls Try.prog 44 #[vb.val y, .agg #[.int .i64 0, .int .i64 0], .int .i64 3, .pointer none] w (OneOut (.pointer none) 2 ⟨7, 1, 3, false, [1]⟩ [] w) from (mixStart_any vb y 0 0 3 (.pointer none) [] w h (DrawV.nil w) VwSep.none (by omega) (by omega)).mono (by
    intro e w' he
    unfold StartEnd at he
    rw [if_neg A2, A1] at he
    simp only at he
    rw [M2, hvb] at he
    exact he))
  unfold OneOut at CS
  simp only at CM CS CK
  generalize vJoinOk (vwNew 1 2 2) 2 = k1 at *
  clear J1 K1 M1 A1 M2 A2 hva hvb
  go_enter Try.func40, Try.ntmps40
  go_wp2_with fail
  refine C1.out.mono ?_
  rintro e w1 ⟨rfl, f1⟩
  have F1 := Lib.hid f1
  clear f1 C1
  go_wp2_with fail
  refine (CJ.out w1).mono ?_
  rintro e w2 ⟨y, rfl, h2, f2, -⟩
  have F2 := Lib.hid (Gr.trans F1.out f2)
  have H2 := Lib.hid h2
  clear f2 h2 F1 CJ
  go_wp2_with (refine wpList_fresh (vs := va.arr y) hz1 hz2 Try.infoView (by rfl) (by rw [← Array.all_toList]; rfl) (by rfl) (by rfl) ?_)
  intro w3 f3 b3 l3
  obtain ⟨q, hq⟩ : ∃ q, q = w2.heap.size := ⟨_, rfl⟩
  rw [← hq] at b3 l3 ⊢
  have hWq : W.heap.size ≤ q := by rw [hq]; exact F2.out.size
  have V3 : Hid (VarV W q w3 va y) := Lib.hid ⟨b3, H2.out.gr f3, VwApart.new (S := fun k => k = q) H2.out (fun k h => by omega), Gr.trans F2.out f3⟩
  clear f3 b3 l3 hq F2 H2
  go_upto_region 2 with fail
  refine wp_region_lit ?_
  refine wpList_load_mid (by rfl) 29 _ (by rfl) q 0 (by rfl) (Array.toList (va.arr y)) _ (blk_range V3.out.blk) Try.underlying29 rfl Try.infoView ?_
  go_wp2_with fail
  refine (CK.out y w3 V3.out.at_).mono ?_
  rintro e w4 ⟨z, rfl, h4, -, f4, k4⟩
  replace f4 := gr_of_pnone f4
  have V4 := Lib.hid (V3.out.keep f4)
  have H4 := Lib.hid h4
  have AP4 := Lib.hid (V3.out.apart.next k4 (fun k h => by have := V3.out.lt; omega))
  clear f4 h4 k4 V3 CK
  go_wp2_with (refine wpList_storeW (vs := vb.arr z) V4.out.blk (by rfl) 29 _ _ (by rfl) (by rfl) (by rfl) rfl Try.infoView (by rw [← Array.all_toList]; rfl) ?_)
  intro w5 f5 b5
  have V5 : Hid (VarV W q w5 vb z) := Lib.hid ⟨b5, H4.out.keepA f5 AP4.out, AP4.out, fr_new V4.out.gr f5 hWq⟩
  clear f5 b5 V4 H4 AP4
  go_upto_region 3 with fail
  refine wp_region_lit ?_
  refine wpList_load_mid (by rfl) 29 _ (by rfl) q 0 (by rfl) (Array.toList (vb.arr z)) _ (blk_range V5.out.blk) Try.underlying29 rfl Try.infoView ?_
  go_wp2_with fail
  refine (CM.out z w5 V5.out.at_).mono ?_
  rintro e w6 ⟨aL, cL, rfl, hL, -, -, f6⟩
  replace f6 := gr_of_pnone f6
  have V6 := Lib.hid (V5.out.keep f6)
  have HL := Lib.hid hL
  clear f6 hL V5 CM
  go_upto_region 4 with fail
  refine wp_region_lit ?_
  refine wpList_load_mid (by rfl) 29 _ (by rfl) q 0 (by rfl) (Array.toList (vb.arr z)) _ (blk_range V6.out.blk) Try.underlying29 rfl Try.infoView ?_
  go_wp2_with fail
  refine (CS.out z w6 V6.out.at_).mono ?_
  rintro e w7 ⟨g, aM, cM, rfl, hg, bg, -, -, -, f7⟩
  replace f7 := gr_of_pnone f7
  have F7 := Lib.hid (Gr.trans V6.out.gr f7)
  have HL7 := Lib.hid (HL.out.keep f7 (fun _ _ h => h))
  have BG := Lib.hid bg
  clear f7 hg bg V6 CS HL
  go_wp2_with fail
  obtain ⟨w8, hw8⟩ : ∃ w8, w8 = w7.alloc (.cells #[.int .i64 1, .int .i64 2, .int .i64 3] 3) := ⟨_, rfl⟩
  have g8 : Gr w7 w8 := by rw [hw8]; exact (Fr.refl _ _).alloc _
  have hk2 : SlA w8 (some ⟨w7.heap.size, 0, none⟩) 3 3 (ints [1, 2, 3]) :=
    sla_blk (c := #[.int .i64 1, .int .i64 2, .int .i64 3]) (by rw [hw8, heap_alloc_if, if_pos rfl]) (fun j x h => by
      match j, h with
      | 0, h => simpa using h
      | 1, h => simpa using h
      | 2, h => simpa using h) (Nat.le_refl _) (by decide)
  rw [← hw8]
  refine (refSame_any aL cL [1, 2, 3] (some ⟨w7.heap.size, 0, none⟩) 3 [1, 2, 3] _ (HL7.out.keep g8 (fun _ _ h => h)) hk2).mono ?_
  rintro e w9 ⟨rfl, q9, hq9⟩
  rw [(same_iff [1, 2, 3] [1, 2, 3]).2 rfl]
  have g9 : Gr w7 w9 := by rw [hq9]; exact g8.drewN q9
  have F9 := Lib.hid (Gr.trans F7.out g9)
  have B9 := Lib.hid (blk_keep g9 BG.out (fun h => h))
  clear g8 hk2 hw8 hq9 g9 F7 HL7 BG
  have x0 := (Bx.of_block B9.out) 0 _ rfl
  have x1 := (Bx.of_block B9.out) 1 _ rfl
  have x3 := (Bx.of_block B9.out) 3 _ rfl
  go_wp2_with fail
  go_ret
  exact ⟨rfl, F9.out⟩

theorem Try.zeroSizes : (Try.prog.info? 80).map (fun i => (i.zero, i.size)) = some (some (.agg #[.int .i64 0, .int .i64 0]), 2) := by kernel_rfl
theorem Try.infoSizes : (Try.prog.info? 80).map (·.size) = some 2 := by kernel_rfl
theorem exec_bldSizes (ρ : Operand → Value) (w : World) (dst : Option Tmp) (ty : TypeId) (pos : String) (after : Array Edge) {x0 x1 : Operand} {i0 i1 : Int} (h0 : ρ x0 = .int .i64 i0) (h1 : ρ x1 = .int .i64 i1) :
    (execOp ρ ⟨dst, .build 80 #[(0, x0), (1, x1)], ty, pos, after, none⟩).run Try.prog w = .ok (.value (.agg #[.int .i64 i0, .int .i64 i1])) w := by simp [go_sem, h0, h1]
theorem wpList_bldSizes {ops : Array Oper} {rest : List Oper} {dst : Option Tmp} {ty : TypeId} {pos : String} {after : Array Edge} {A : Act} {w : World} {Q : Exit → Act → World → Prop} {x0 x1 : Operand} {i0 i1 : Int} (h0 : A.eval x0 = .int .i64 i0) (h1 : A.eval x1 = .int .i64 i1)
    (h : wpList Try.prog ops Q rest (A.put dst (.agg #[.int .i64 i0, .int .i64 i1])) w) : wpList Try.prog ops Q (⟨dst, .build 80 #[(0, x0), (1, x1)], ty, pos, after, none⟩ :: rest) A w := by
  refine wpList_plain rfl fun K hK => ?_
  unfold Oper.wp
  rw [exec_bldSizes A.eval w dst ty pos after h0 h1]
  exact hK _ _ h
theorem oneV_out {ds l : List Int} (hl : l ≠ []) (h : l.length < 2 ∨ ds = [] ∨ 2147483647 < l.length) : oneV ds l = (l.getD 0 0, true, ds) := by
  unfold oneV
  rw [if_neg hl]
  have : bel ds (l.length : Int) = (0, ds) := by
    unfold bel
    split
    · rcases h with h | h | h
      · omega
      · subst h; rfl
      · omega
    · rfl
  unfold belN
  rw [this]
  rfl
theorem oneV_in {c : Int} {r l : List Int} (h : 2 ≤ l.length) (h2 : l.length ≤ 64) : oneV (c :: r) l = (l.getD (c % (l.length : Int)).toNat 0, true, r) := by
  unfold oneV
  have hl : l ≠ [] := fun e => by rw [e] at h; simp at h
  rw [if_neg hl]
  have : bel (c :: r) (l.length : Int) = (c % (l.length : Int), r) := by
    unfold bel
    rw [if_pos (by omega)]
  unfold belN
  rw [this]
theorem VwAt.keepLt {B : Nat} {w w' : World} {v : Vw} {y : VwP} (h : VwAt w v y) (f : Fr (fun k => B ≤ k) w w') (hB : w.heap.size ≤ B) : VwAt w' v y :=
  ⟨h.act.keepNE f (fun hl q hq hk => by have := h.act.ltNE hl q hq; omega), h.pas.keepNE f (fun hl q hq hk => by have := h.pas.ltNE hl q hq; omega), h.good⟩
theorem VwSep.new {p : Value} {w : World} {v : Vw} {y : VwP} (h : VwAt w v y) (hp : ∀ k, pblk p k → w.heap.size ≤ k) : VwSep p v y :=
  ⟨fun hl q hq hk => by have := h.act.ltNE hl q hq; have := hp _ hk; omega, fun hl q hq hk => by have := h.pas.ltNE hl q hq; have := hp _ hk; omega⟩
theorem FrB.gr {B : Nat} {a b c : World} (h : Fr (fun k => B ≤ k) a b) (f : Gr b c) : Fr (fun k => B ≤ k) a c := Fr.trans h f (fun _ h => h.elim)
theorem FrB.p {B : Nat} {p : Value} {a b c : World} (h : Fr (fun k => B ≤ k) a b) (f : Fr (pblk p) b c) (hp : ∀ k, pblk p k → B ≤ k) : Fr (fun k => B ≤ k) a c := Fr.trans h f (fun k hk => .inl (hp k hk))
theorem FrB.b {B q : Nat} {a b c : World} (h : Fr (fun k => B ≤ k) a b) (f : Fr (fun k => k = q) b c) (hp : B ≤ q) : Fr (fun k => B ≤ k) a c := Fr.trans h f (fun k hk => .inl (by omega))
end Go.Proofs.Ytdpnkikaciigoaa
