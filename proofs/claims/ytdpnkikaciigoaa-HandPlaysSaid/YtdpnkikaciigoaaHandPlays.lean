/-
  The walk of HandPlays (printed by gen_hplays.py).
-/
import Derived.Test.YtdpnkikaciigoaaHandSpk
import Derived.Test.YtdpnkikaciigoaaRefHand
import Derived.Test.YtdpnkikaciigoaaVPLaw
import Derived.Test.YtdpnkikaciigoaaMsgQ
import Derived.Test.YtdpnkikaciigoaaRegionW
import Derived.Test.YtdpnkikaciigoaaSetRef
import Derived.Deep.CutRange
import Derived.Deep.CutBlock
namespace Go.Proofs.Ytdpnkikaciigoaa
open Go.RowKit Go.Proofs

structure HAct where
  what : Int
  n : Int
  high : Bool
def HAct.cells (x : HAct) : List Value := [.int .i64 x.what, .int .i64 x.n, .bool x.high]
theorem hp_and7 (x : Int) : ∃ v : Int, bits .and .i64 x 7 = v ∧ 0 ≤ v ∧ v ≤ 7 := by
  refine ⟨_, rfl, ?_⟩
  have h : (BitVec.ofInt 64 x &&& BitVec.ofInt 64 7).toNat ≤ 7 := by
    rw [BitVec.toNat_and]
    exact Nat.and_le_right
  have e : bits .and .i64 x 7 = IntKind.i64.wrap ((BitVec.ofInt 64 x &&& BitVec.ofInt 64 7).toNat : Int) := rfl
  rw [e, IntKind.wrap_i64]
  omega
theorem rem7 (x : Int) : ∃ r1 r2 : Int, x.tmod 7 = r1 ∧ (r1 + 7).tmod 7 = r2 ∧ -7 < r1 ∧ r1 < 7 ∧ 0 ≤ r2 ∧ r2 < 7 := by
  refine ⟨_, _, rfl, rfl, ?_, ?_, ?_, ?_⟩
  · have h1 := Int.tmod_lt_of_pos (-x) (show (0 : Int) < 7 by omega)
    rw [Int.neg_tmod] at h1
    omega
  · exact Int.tmod_lt_of_pos x (by omega)
  · have h1 := Int.tmod_lt_of_pos (-x) (show (0 : Int) < 7 by omega)
    rw [Int.neg_tmod] at h1
    exact Int.tmod_nonneg 7 (by omega)
  · exact Int.tmod_lt_of_pos _ (by omega)
theorem HInv.ok {h : Hd} {g : Rh} (hi : HInv h g) {ds : List Int} (hr : ∀ x ∈ ds, 0 ≤ x ∧ x < 4294967296) : RhOk g ds := by
  have h1 := hi.like.act.length_eq
  have h2 := hi.like.pas.length_eq
  have h3 := hi.asked.length_eq
  have h4 := hi.good.v.act.len
  have h5 := hi.good.v.pas.len
  have h6 := hi.good.asked.len
  have h7 := hi.good.v.pas.least
  have h8 := hi.like.pm
  exact ⟨by omega, by omega, by omega, by omega, hr⟩
theorem inv_new (a p : Int) (ha : 0 ≤ a ∧ a ≤ 7) (hp : 0 ≤ p ∧ p ≤ 7) : HInv (hNew 3 a p) ⟨⟨3, [], a, [], p⟩, []⟩ := by
  have e : hNew 3 a p = ⟨⟨3, [], a, [], p⟩, []⟩ := by
    unfold hNew
    rw [show min (max a 0) 64 = a by omega, show min (max p 0) 64 = p by omega]
  have hg := hNew_good 3 a p
  rw [e] at hg ⊢
  exact ⟨⟨rfl, List.Perm.refl _, List.Perm.refl _, rfl, rfl⟩, List.Perm.refl _, hg, ⟨by simp, by simp, by simp⟩, by simp⟩
theorem exec_bldRH (ρ : Operand → Value) (w : World) (dst : Option Tmp) (ty : TypeId) (pos : String) (after : Array Edge) {x0 : Operand} {c0 c1 c2 c3 c4 c5 : Value} (h0 : ρ x0 = .agg #[c0, c1, c2, c3, c4, c5]) :
    (execOp ρ ⟨dst, .build 137 #[(0, x0)], ty, pos, after, none⟩).run Try.prog w = .ok (.value (.agg #[c0, c1, c2, c3, c4, c5, .slice none 0 0])) w := by simp [go_sem, h0]
theorem wpList_bldRH {ops : Array Oper} {rest : List Oper} {dst : Option Tmp} {ty : TypeId} {pos : String} {after : Array Edge} {A : Act} {w : World} {Q : Exit → Act → World → Prop} {x0 : Operand} {c0 c1 c2 c3 c4 c5 : Value} (h0 : A.eval x0 = .agg #[c0, c1, c2, c3, c4, c5])
    (h : wpList Try.prog ops Q rest (A.put dst (.agg #[c0, c1, c2, c3, c4, c5, .slice none 0 0])) w) :
    wpList Try.prog ops Q (⟨dst, .build 137 #[(0, x0)], ty, pos, after, none⟩ :: rest) A w := by
  refine wpList_plain rfl fun K hK => ?_
  unfold Oper.wp
  rw [exec_bldRH A.eval w dst ty pos after h0]
  exact hK _ _ h
theorem few_ask (h : Hd) (n : Int) (high : Bool) : (hAsk h n high).2.length ≤ 2 := by unfold hAsk; split <;> simp
theorem few_onAsk (h : Hd) (n : Int) (high : Bool) (ds : List Int) : (hOnAsk h n high ds).2.1.length ≤ 2 := by
  unfold hOnAsk
  split
  · simp
  · split
    · split
      · have := hTake_few h n ds
        simp only [List.length_append, List.length_cons, List.length_nil]
        omega
      · simp
    · simp
theorem few_onYes (h : Hd) (n : Int) (ds : List Int) : (hOnYes h n ds).2.1.length ≤ 2 := by
  unfold hOnYes
  split
  · exact Nat.le_trans (hTake_few _ n ds) (by decide)
  · split <;> simp
theorem few_onNo (h : Hd) (n : Int) (ds : List Int) : (hOnNo h n ds).2.1.length ≤ 2 := by unfold hOnNo; split <;> simp
/-- where a kind of act ends -/
def HpEnd (Wb : World) (q0 q1 : Nat) (dp : Value) (RL : List Rw) (a b : Value) (wx : World) : Prop :=
  ∃ (h : Hd) (x : HdP) (g : Rh) (y : RhP) (ds : List Int) (o : List Ho) (oa : Option Addr) (oc : Nat) (ra : Option Addr) (rc : Nat), a = .slice oa o.length oc ∧ b = .slice ra o.length rc ∧ HInv h g ∧ o.length ≤ 2 ∧
    Sta Wb (fun _ => True) dp ds [⟨q1, g.arr ds y, 137⟩, ⟨q0, h.arr x, 112⟩] [] (⟨oa, o.length, oc, houts o⟩ :: ⟨ra, o.length, rc, routs o⟩ :: hrows h x (rhrows g ds y RL)) wx
set_option maxHeartbeats 16000000 in
set_option maxRecDepth 100000 in
theorem handPlays_walk (s0 s1 : Int) (a1 : Option Addr) (c1 : Nat) (L : List HAct) (a2 : Option Addr) (c2 : Nat) (lc : List Int) (W : World) (h1 : SlA W a1 L.length c1 (L.flatMap HAct.cells))
    (hc : SlA W a2 lc.length c2 (lc.map (Value.int .u32))) (hcr : ∀ x ∈ lc, 0 ≤ x ∧ x < 4294967296) :
    Calls Try.prog 14 #[.agg #[.int .i64 s0, .int .i64 s1], .slice a1 L.length c1, .slice a2 lc.length c2] W fun e w' => e = .returned (.bool true) ∧ Gr W w' := by
  obtain ⟨iz, hz1, hz2, hzs⟩ := info_pair Try.zeroHand
  obtain ⟨ir, hr1, hr2, hrs⟩ := info_pair Try.zeroRefHand
  obtain ⟨w0, hw0⟩ : ∃ w0, w0 = W.alloc (.cells #[.int .i64 s0, .int .i64 s1] 47) := ⟨_, rfl⟩
  have f0 : Gr W w0 := by rw [hw0]; exact (Fr.refl _ _).alloc _
  have X0 := Lib.hid (show w0.heap[W.heap.size]? = some (.cells #[.int .i64 s0, .int .i64 s1] 47 (0, 0)) by rw [hw0, heap_alloc_if, if_pos rfl])
  have F0 := Lib.hid f0
  have HW0 := Lib.hid hw0
  have HL := Lib.hid h1
  have S0 := Lib.hid (speaks11_any w0)
  have e1 := h1.le
  have e2 := h1.max
  have e3 := hc.le
  have e4 := hc.max
  obtain ⟨l', hl1, hl2, hl3, hl4, hl5⟩ := cut_list (Value.int .u32) W a2 c2 lc 40 40 rfl hc
  have hb : l'.length * 4 ≤ 140737488355328 := by omega
  have e7 := hl3.le
  have HC := Lib.hid hl3
  have HCR2 := Lib.hid (show ∀ x ∈ l', 0 ≤ x ∧ x < 4294967296 from fun x hx => hcr x (by rw [hl2] at hx; exact List.mem_of_mem_take hx))
  obtain ⟨n1, hn1⟩ : ∃ n, n = min L.length 80 := ⟨_, rfl⟩
  have HN1 := Lib.hid hn1
  clear hw0 f0 h1 hc hcr hn1 hl2 hl3
  go_enter Try.func14, Try.ntmps14
  go_upto_region 1 with fail
  rw [← HW0.out]
  clear HW0
  go_wp2_with fail
  refine S0.out.mono ?_
  rintro e w1 ⟨rfl, f1⟩
  have F1 := Lib.hid (Gr.trans F0.out f1)
  have X1 := Lib.hid (blk_keep f1 X0.out (fun h => h))
  clear f1 X0 F0 S0
  obtain ⟨sa, hsa, hsa0, hsa1⟩ := hp_and7 s0
  obtain ⟨sp, hsp, hsp0, hsp1⟩ := hp_and7 s1
  have y0 := (Bx.of_block X1.out) 0 _ rfl
  have y1 := (Bx.of_block X1.out) 1 _ rfl
  go_upto_region 3 with fail
  go_quiet (fail)
  obtain ⟨w3, hw3⟩ : ∃ x, x = w1.drewN nq := ⟨_, rfl⟩
  rw [← hw3]
  have F3 := Lib.hid (show Gr W w3 by rw [hw3]; exact F1.out.drewN nq)
  clear hw3 y0 y1 X1 F1 hsa hsp
  have CD := Lib.hid (new_any a2 c2 l' w3 (HC.out.keep F3.out (fun _ _ h => h)) hb HCR2.out)
  have hW3 := F3.out.size
  go_upto_region 5 with fail
  clear hl4 hl5
  go_wp2_with fail
  refine CD.out.mono ?_
  rintro e Wb ⟨d, rfl, hd3, hd4, bl4⟩
  obtain ⟨dp, hdp⟩ : ∃ dp, dp = Value.pointer (some ⟨d, 0, none⟩) := ⟨_, rfl⟩
  have HDD := Lib.hid (show ∃ d, dp = Value.pointer (some ⟨d, 0, none⟩) from ⟨d, hdp⟩)
  have FB := Lib.hid (Gr.trans F3.out (Gr.of_below bl4))
  have HPW := Lib.hid (show ∀ k, pblk dp k → W.heap.size ≤ k from fun k hk => by rw [hdp] at hk; unfold pblk at hk; cases hk; omega)
  have ST1 := Lib.hid (show Sta Wb (fun _ => True) dp l' [] [] (hrows (hNew 3 sa sp) hdNone (rhrows ⟨⟨3, [], sa, [], sp⟩, []⟩ l' ⟨vwNone, a2, c2, none, 0⟩ [])) Wb from Sta.initD (.inr ⟨d, hdp, hd4⟩) (by
    intro r hr
    rcases List.mem_cons.1 hr with rfl | hr
    · exact ⟨SlA.nil Wb, fun h => absurd rfl h⟩
    rcases List.mem_cons.1 hr with rfl | hr
    · exact ⟨SlA.nil Wb, fun h => absurd rfl h⟩
    rcases List.mem_cons.1 hr with rfl | hr
    · exact ⟨SlA.nil Wb, fun h => absurd rfl h⟩
    rcases List.mem_cons.1 hr with rfl | hr
    · exact ⟨SlA.nil Wb, fun h => absurd rfl h⟩
    rcases List.mem_cons.1 hr with rfl | hr
    · exact ⟨SlA.nil Wb, fun h => absurd rfl h⟩
    rcases List.mem_cons.1 hr with rfl | hr
    · refine ⟨HC.out.keep FB.out (fun _ _ h => h), fun hn q hq hk => ?_⟩
      have h1 := HC.out.ltC hn hq
      have h2 := HPW.out _ hk
      omega
    rcases List.mem_cons.1 hr with rfl | hr
    · exact ⟨SlA.nil Wb, fun h => absurd rfl h⟩
    · cases hr))
  rw [← hdp]
  clear hd3 hd4 bl4 CD hdp F3
  have CN := Lib.hid (handNew_any 3 sa sp Wb)
  go_upto_region 6 with fail
  go_wp2_with fail
  refine CN.out.mono ?_
  rintro e w4 ⟨rfl, f_⟩
  clear CN
  have ST2 := Lib.hid (show Sta Wb (fun _ => True) dp l' [] [] (hrows (hNew 3 sa sp) hdNone (rhrows (⟨⟨3, [], sa, [], sp⟩, []⟩ : Rh) l' (⟨vwNone, a2, c2, none, 0⟩ : RhP) [])) w4 from ST1.out.gr f_)
  clear ST1 f_
  go_wp2_with (refine wpList_fresh (vs := Hd.arr (hNew 3 sa sp) hdNone) hz1 hz2 Try.infoHand (by rfl) (by rw [← Array.all_toList]; rfl) (by rfl) (by rfl) ?_)
  intro w5 f_ b_ l_
  obtain ⟨q0, hb_⟩ : ∃ b, b = w4.heap.size := ⟨_, rfl⟩
  rw [← hb_] at b_ l_ ⊢
  have ST3 := Lib.hid (show Sta Wb (fun _ => True) dp l' [⟨q0, Hd.arr (hNew 3 sa sp) hdNone, 112⟩] [] (hrows (hNew 3 sa sp) hdNone (rhrows (⟨⟨3, [], sa, [], sp⟩, []⟩ : Rh) l' (⟨vwNone, a2, c2, none, 0⟩ : RhP) [])) w5 from ST2.out.var f_ b_ (Nat.le_of_eq hb_.symm))
  clear ST2 f_ b_ l_ hb_
  go_upto_region 7 with fail
  refine wp_region_lit ?_
  iterate 9 go_step
  refine wpList_bldW (by rfl) (by rfl) (by rfl) (by rfl) ?_
  refine wpList_bldRH (by rfl) ?_
  refine wpList_fresh (vs := Rh.arr (⟨⟨3, [], sa, [], sp⟩, []⟩ : Rh) l' (⟨vwNone, a2, c2, none, 0⟩ : RhP)) hr1 hr2 Try.infoRefHand (by rfl) (by rw [← Array.all_toList]; rfl) (by rfl) (by rfl) ?_
  intro w6 f_ b_ l_
  obtain ⟨q1, hb_⟩ : ∃ b, b = w5.heap.size := ⟨_, rfl⟩
  rw [← hb_] at b_ l_ ⊢
  have ST4 := Lib.hid (show Sta Wb (fun _ => True) dp l' [⟨q1, Rh.arr (⟨⟨3, [], sa, [], sp⟩, []⟩ : Rh) l' (⟨vwNone, a2, c2, none, 0⟩ : RhP), 137⟩, ⟨q0, Hd.arr (hNew 3 sa sp) hdNone, 112⟩] [] (hrows (hNew 3 sa sp) hdNone (rhrows (⟨⟨3, [], sa, [], sp⟩, []⟩ : Rh) l' (⟨vwNone, a2, c2, none, 0⟩ : RhP) [])) w6 from ST3.out.var f_ b_ (Nat.le_of_eq hb_.symm))
  clear ST3 f_ b_ l_ hb_
  have HI := Lib.hid (inv_new sa sp ⟨hsa0, hsa1⟩ ⟨hsp0, hsp1⟩)
  have ST4' := Lib.hid (show ∃ (h : Hd) (x : HdP) (g : Rh) (y : RhP) (ds : List Int), HInv h g ∧ Sta Wb (fun _ => True) dp ds [⟨q1, g.arr ds y, 137⟩, ⟨q0, h.arr x, 112⟩] [] (hrows h x (rhrows g ds y [])) w6 from ⟨_, hdNone, _, _, l', HI.out, ST4.out⟩)
  clear ST4 HI hsa0 hsa1 hsp0 hsp1 hb HCR2 HC hl1 e3 e4 e7 hz1 hz2 hzs hr1 hr2 hrs hW3
  go_upto_region 8 with fail
  go_wp2_with fail
  go_loopw [12] (fun iv wr => ∃ (k : Nat) (h : Hd) (x : HdP) (g : Rh) (y : RhP) (ds : List Int), iv = .int .i64 k ∧ k ≤ n1 ∧ HInv h g ∧ Sta Wb (fun _ => True) dp ds [⟨q1, g.arr ds y, 137⟩, ⟨q0, h.arr x, 112⟩] [] (hrows h x (rhrows g ds y [])) wr) (fun iv _ => n1 - (intOf iv).toNat)
  case atStart => obtain ⟨h, x, g, y, ds, hi, hst⟩ := ST4'.out; exact ⟨0, h, x, g, y, ds, rfl, Nat.zero_le _, hi, hst⟩
  case round =>
    clear ST4'
    obtain ⟨k, h, x, g, y, ds, rfl, hk, hi, hst⟩ := hrel
    have HI := Lib.hid hi
    have ST1 := Lib.hid hst
    clear hi hst
    go_upto_region 9 with fail
    go_cut [47] from 40 to 46 (fun c wx => c = .bool (decide (k < n1)) ∧ wr = wx)
    case first =>
      by_cases h1 : (k : Int) < (L.length : Int)
      · by_cases h2 : (k : Int) < 80
        · have hd := Lib.hid (show decide (k < n1) = true by have := HN1.out; simp; omega)
          go_wp2_with fail
          go_meet
          exact ⟨by rw [hd.out], rfl⟩
        · have hd := Lib.hid (show decide (k < n1) = false by have := HN1.out; simp; omega)
          go_wp2_with fail
          go_meet
          exact ⟨by rw [hd.out], rfl⟩
      · have hd := Lib.hid (show decide (k < n1) = false by have := HN1.out; simp; omega)
        go_wp2_with fail
        go_meet
        exact ⟨by rw [hd.out], rfl⟩
    case rest =>
      obtain ⟨rfl, rfl⟩ := hcut
      by_cases hlt : k < n1
      · rw [decide_eq_true hlt]
        have hkl : k < L.length := by have := HN1.out; omega
        obtain ⟨bl, ol, rfl, hcW⟩ := HL.out.elem (n := 3) (fun _ => rfl) (by omega) k hkl
        have hcc : ∀ (j : Nat) (v : Value), (HAct.cells L[k])[j]? = some v → Wb.cell? ⟨bl, ol + k * 3 + j, none⟩ = some v := fun j v hv => FB.out.cell (hcW j v hv) (fun h => h)
        have hbW : bl < W.heap.size := lt_of_cell (hcW 0 _ rfl)
        have hbd : ¬ pblk dp bl := fun hk => by have := HPW.out _ hk; omega
        clear hcW
        generalize L[k] = xv at hcc
        obtain ⟨wh, n, hg⟩ := xv
        obtain ⟨r1, r2, hr1, hr2, hr3, hr4, hr5, hr6⟩ := rem7 wh
        have HB := Lib.hid (show ∀ w, Fr (pblk dp) Wb w → w.cell? ⟨bl, ol + k * 3 + 2, none⟩ = some (.bool hg) from fun w f => f.cell (hcc 2 _ rfl) hbd)
        have g0 : wr.cell? ⟨bl, ol + k * 3, none⟩ = some (.int .i64 wh) := ST1.out.fr.cell (hcc 0 _ rfl) hbd
        have g1 : wr.cell? ⟨bl, ol + k * 3 + 1, none⟩ = some (.int .i64 n) := ST1.out.fr.cell (hcc 1 _ rfl) hbd
        clear hcc
        go_upto_block 2 with fail
        clear hr1 hr2 hr3 hr4 g0 g1
        go_cut [14, 15] from 63 to 156 (fun a b wx => HpEnd Wb q0 q1 dp [] a b wx)
        case first =>
          cases e0v : (r2 == 0)
          case true =>
            have hI := inv_ask HI.out n hg
            have CP := Lib.hid (fun O w (h1 : Sta w O dp ds [] [] (hrows h x []) w) => handAsk_any h x n hg dp ds O w h1 HI.out.good)
            have CR := Lib.hid (fun D O w (h1 : Sta w O dp D [] [] (rhrows g ds y []) w) => refAsk11_any g ds y n hg dp D O w h1 (HI.out.ok ST1.out.dr.range))
            have hF := few_ask h n hg
            obtain ⟨h', o', e1⟩ : ∃ a b, hAsk h n hg = (a, b) := ⟨_, _, rfl⟩
            obtain ⟨g', o2, e2⟩ : ∃ a b, rhAsk g n hg = (a, b) := ⟨_, _, rfl⟩
            rw [e1] at hI hF CP
            rw [e2] at hI CR
            simp only at hI hF CP CR
            obtain ⟨hI1, hI2⟩ := hI
            replace hI2 := hI2.symm
            subst hI2
            have HI' := Lib.hid hI1
            have HF := Lib.hid hF
            clear hI1 hF e1 e2
            go_upto_region 18 with fail
            obtain ⟨wzd, hwd⟩ : ∃ x, x = wr.drew := ⟨_, rfl⟩
            have HWD := Lib.hid hwd
            have ST2 := Lib.hid (show Sta Wb (fun _ => True) dp ds [⟨q1, Rh.arr g ds y, 137⟩, ⟨q0, Hd.arr h x, 112⟩] [] (hrows h x (rhrows g ds y [])) wzd from hwd ▸ ST1.out.gr ((Fr.refl _ _).drew))
            clear ST1 hwd
            haveI : Nonempty (WC (fun w => w.cell? ⟨bl, ol + k * 3 + 2, none⟩ = some (.bool hg))) := ⟨⟨wzd, HB.out _ ST2.out.fr⟩⟩
            have zc : ∀ z : WC (fun w => w.cell? ⟨bl, ol + k * 3 + 2, none⟩ = some (.bool hg)), z.val.cell? ⟨bl, ol + k * 3 + 2, none⟩ = some (.bool hg) := fun z => z.ok
            refine wp_region_plan [0, 7, 11, 12] (Plan.seq [0, 1, 2, 3, 4, 5, 6, 7, 8, 9, 10, 11, 12] .done) (fun w' => ∃ z : WC (fun w => w.cell? ⟨bl, ol + k * 3 + 2, none⟩ = some (.bool hg)), w' = z.val) (by kernel_rfl) (by kernel_rfl) (fun c a w d v h => by cases d <;> exact h) (fun c a w d v h => by cases d <;> exact h) (by rw [← HWD.out]; exact ⟨⟨wzd, HB.out _ ST2.out.fr⟩, rfl⟩) ?_
            rw [← HWD.out]
            clear HWD
            refine wpV_e (by simp only [List.getElem?_toArray, List.getElem?_cons_zero] <;> rfl) (by rfl) ?_
            refine wpList_load_mid (by rfl) 112 _ (by rfl) q0 0 (by rfl) (Array.toList (Hd.arr h x)) _ (blk_range (ST2.out.blkAt 1 rfl)) Try.underlying112 rfl Try.infoHand ?_
            refine wpList_nil ?_
            refine ⟨⟨⟨wzd, HB.out _ ST2.out.fr⟩, rfl⟩, ?_⟩
            simp only [Act.put, List.setIfInBounds_toArray, List.set_cons_succ, List.set_cons_zero]
            refine wpV_q (by simp only [List.getElem?_toArray, List.getElem?_cons_succ, List.getElem?_cons_zero] <;> rfl) (by rfl) (by rfl) ?_
            go_big_quiet_step (fail)
            refine wpQuiet_nil ?_
            refine wpV_q (by simp only [List.getElem?_toArray, List.getElem?_cons_succ, List.getElem?_cons_zero] <;> rfl) (by rfl) (by rfl) ?_
            go_big_quiet_step (fail)
            refine wpQuiet_nil ?_
            refine wpV_q (by simp only [List.getElem?_toArray, List.getElem?_cons_succ, List.getElem?_cons_zero] <;> rfl) (by rfl) (by rfl) ?_
            go_big_quiet_step (fail)
            refine wpQuiet_nil ?_
            refine wpV_q (by simp only [List.getElem?_toArray, List.getElem?_cons_succ, List.getElem?_cons_zero] <;> rfl) (by rfl) (by rfl) ?_
            go_big_quiet_step (fail)
            refine wpQuiet_nil ?_
            refine wpV_q (by simp only [List.getElem?_toArray, List.getElem?_cons_succ, List.getElem?_cons_zero] <;> rfl) (by rfl) (by rfl) ?_
            go_big_quiet_step (fail)
            refine wpQuiet_nil ?_
            refine wpV_q (by simp only [List.getElem?_toArray, List.getElem?_cons_succ, List.getElem?_cons_zero] <;> rfl) (by rfl) (by rfl) ?_
            go_big_quiet_step (fail)
            refine wpQuiet_nil ?_
            refine wpV_e (by simp only [List.getElem?_toArray, List.getElem?_cons_succ, List.getElem?_cons_zero] <;> rfl) (by rfl) ?_
            go_wp2_with fail
            refine (CP.out _ _ (ST2.out.enter (hrows h x []) (inC (at_ 0 rfl) (inC (at_ 1 rfl) (inC (at_ 2 rfl) inN))))).mono ?_
            intro e wa hst
            obtain ⟨x', ov, rfl, hst2, -⟩ := hst
            have ST3 := Lib.hid (show Sta Wb (fun _ => True) dp ds [⟨q1, Rh.arr g ds y, 137⟩, ⟨q0, Hd.arr h x, 112⟩] [⟨91, 8, ov, o'.length, houts o'⟩] (hrows h' x' (hrows h x (rhrows g ds y []))) wa from ST2.out.leave (inC (at_ 0 rfl) (inC (at_ 1 rfl) (inC (at_ 2 rfl) inN))) hst2)
            clear hst2 ST2
            go_wp2_with fail
            refine ⟨⟨⟨wa, HB.out _ ST3.out.fr⟩, rfl⟩, ?_⟩
            refine wpV_q (by simp only [List.getElem?_toArray, List.getElem?_cons_succ, List.getElem?_cons_zero] <;> rfl) (by rfl) (by rfl) ?_
            go_big_quiet_step (fail)
            refine wpQuiet_nil ?_
            refine wpV_q (by simp only [List.getElem?_toArray, List.getElem?_cons_succ, List.getElem?_cons_zero] <;> rfl) (by rfl) (by rfl) ?_
            go_big_quiet_step (fail)
            refine wpQuiet_nil ?_
            refine wpV_q (by simp only [List.getElem?_toArray, List.getElem?_cons_succ, List.getElem?_cons_zero] <;> rfl) (by rfl) (by rfl) ?_
            go_big_quiet_step (fail)
            refine wpQuiet_nil ?_
            refine wpV_e (by simp only [List.getElem?_toArray, List.getElem?_cons_succ, List.getElem?_cons_zero] <;> rfl) (by rfl) ?_
            refine wpList_storeW (vs := h'.arr x') (ST3.out.blkAt 1 rfl) (by rfl) 112 _ _ (by rfl) (by rfl) (by rfl) rfl Try.infoHand (by rw [← Array.all_toList]; rfl) ?_
            intro wb f_ b_
            have ST4 := Lib.hid (show Sta Wb (fun _ => True) dp ds [⟨q1, Rh.arr g ds y, 137⟩, ⟨q0, h'.arr x', 112⟩] [⟨91, 8, ov, o'.length, houts o'⟩] (hrows h' x' (hrows h x (rhrows g ds y []))) wb from ST3.out.store 1 rfl f_ b_)
            clear ST3 f_ b_
            refine wpList_nil ?_
            refine ⟨⟨⟨wb, HB.out _ ST4.out.fr⟩, rfl⟩, ?_⟩
            simp only [Act.put]
            refine wpV_e (by simp only [List.getElem?_toArray, List.getElem?_cons_succ, List.getElem?_cons_zero] <;> rfl) (by rfl) ?_
            go_wp2_with fail
            refine ⟨⟨⟨wb, HB.out _ ST4.out.fr⟩, rfl⟩, ?_⟩
            refine wpV_done ?_
            clear zc this
            go_upto_region 19 with fail
            obtain ⟨wyd, hwd⟩ : ∃ x, x = wb.drew := ⟨_, rfl⟩
            have HWD := Lib.hid hwd
            have ST5 := Lib.hid (show Sta Wb (fun _ => True) dp ds [⟨q1, Rh.arr g ds y, 137⟩, ⟨q0, h'.arr x', 112⟩] [⟨91, 8, ov, o'.length, houts o'⟩] (hrows h' x' (hrows h x (rhrows g ds y []))) wyd from hwd ▸ ST4.out.gr ((Fr.refl _ _).drew))
            clear ST4 hwd
            haveI : Nonempty (WC (fun w => w.cell? ⟨bl, ol + k * 3 + 2, none⟩ = some (.bool hg))) := ⟨⟨wyd, HB.out _ ST5.out.fr⟩⟩
            have zc : ∀ z : WC (fun w => w.cell? ⟨bl, ol + k * 3 + 2, none⟩ = some (.bool hg)), z.val.cell? ⟨bl, ol + k * 3 + 2, none⟩ = some (.bool hg) := fun z => z.ok
            refine wp_region_plan [0, 7, 11, 12] (Plan.seq [0, 1, 2, 3, 4, 5, 6, 7, 8, 9, 10, 11, 12] .done) (fun w' => ∃ z : WC (fun w => w.cell? ⟨bl, ol + k * 3 + 2, none⟩ = some (.bool hg)), w' = z.val) (by kernel_rfl) (by kernel_rfl) (fun c a w d v h => by cases d <;> exact h) (fun c a w d v h => by cases d <;> exact h) (by rw [← HWD.out]; exact ⟨⟨wyd, HB.out _ ST5.out.fr⟩, rfl⟩) ?_
            rw [← HWD.out]
            clear HWD
            refine wpV_e (by simp only [List.getElem?_toArray, List.getElem?_cons_zero] <;> rfl) (by rfl) ?_
            refine wpList_load_mid (by rfl) 137 _ (by rfl) q1 0 (by rfl) (Array.toList (Rh.arr g ds y)) _ (blk_range (ST5.out.blkAt 0 rfl)) Try.underlying137 rfl Try.infoRefHand ?_
            refine wpList_nil ?_
            refine ⟨⟨⟨wyd, HB.out _ ST5.out.fr⟩, rfl⟩, ?_⟩
            simp only [Act.put, List.setIfInBounds_toArray, List.set_cons_succ, List.set_cons_zero]
            refine wpV_q (by simp only [List.getElem?_toArray, List.getElem?_cons_succ, List.getElem?_cons_zero] <;> rfl) (by rfl) (by rfl) ?_
            go_big_quiet_step (fail)
            refine wpQuiet_nil ?_
            refine wpV_q (by simp only [List.getElem?_toArray, List.getElem?_cons_succ, List.getElem?_cons_zero] <;> rfl) (by rfl) (by rfl) ?_
            go_big_quiet_step (fail)
            refine wpQuiet_nil ?_
            refine wpV_q (by simp only [List.getElem?_toArray, List.getElem?_cons_succ, List.getElem?_cons_zero] <;> rfl) (by rfl) (by rfl) ?_
            go_big_quiet_step (fail)
            refine wpQuiet_nil ?_
            refine wpV_q (by simp only [List.getElem?_toArray, List.getElem?_cons_succ, List.getElem?_cons_zero] <;> rfl) (by rfl) (by rfl) ?_
            go_big_quiet_step (fail)
            refine wpQuiet_nil ?_
            refine wpV_q (by simp only [List.getElem?_toArray, List.getElem?_cons_succ, List.getElem?_cons_zero] <;> rfl) (by rfl) (by rfl) ?_
            go_big_quiet_step (fail)
            refine wpQuiet_nil ?_
            refine wpV_q (by simp only [List.getElem?_toArray, List.getElem?_cons_succ, List.getElem?_cons_zero] <;> rfl) (by rfl) (by rfl) ?_
            go_big_quiet_step (fail)
            refine wpQuiet_nil ?_
            refine wpV_e (by simp only [List.getElem?_toArray, List.getElem?_cons_succ, List.getElem?_cons_zero] <;> rfl) (by rfl) ?_
            go_wp2_with fail
            refine (CR.out _ _ _ (ST5.out.enter (rhrows g ds y []) (inC (at_ 6 rfl) (inC (at_ 7 rfl) (inC (at_ 8 rfl) (inC (at_ 9 rfl) inN)))))).mono ?_
            intro e wc1 hst
            obtain ⟨y', rv, rfl, hst2⟩ := hst
            have ST6 := Lib.hid (show Sta Wb (fun _ => True) dp ds [⟨q1, Rh.arr g ds y, 137⟩, ⟨q0, h'.arr x', 112⟩] [⟨146, 3, rv, o'.length, routs o'⟩, ⟨91, 8, ov, o'.length, houts o'⟩] (rhrows g' ds y' (hrows h' x' (hrows h x (rhrows g ds y [])))) wc1 from ST5.out.leave (inC (at_ 6 rfl) (inC (at_ 7 rfl) (inC (at_ 8 rfl) (inC (at_ 9 rfl) inN)))) hst2)
            clear hst2 ST5
            go_wp2_with fail
            refine ⟨⟨⟨wc1, HB.out _ ST6.out.fr⟩, rfl⟩, ?_⟩
            refine wpV_q (by simp only [List.getElem?_toArray, List.getElem?_cons_succ, List.getElem?_cons_zero] <;> rfl) (by rfl) (by rfl) ?_
            go_big_quiet_step (fail)
            refine wpQuiet_nil ?_
            refine wpV_q (by simp only [List.getElem?_toArray, List.getElem?_cons_succ, List.getElem?_cons_zero] <;> rfl) (by rfl) (by rfl) ?_
            go_big_quiet_step (fail)
            refine wpQuiet_nil ?_
            refine wpV_q (by simp only [List.getElem?_toArray, List.getElem?_cons_succ, List.getElem?_cons_zero] <;> rfl) (by rfl) (by rfl) ?_
            go_big_quiet_step (fail)
            refine wpQuiet_nil ?_
            refine wpV_e (by simp only [List.getElem?_toArray, List.getElem?_cons_succ, List.getElem?_cons_zero] <;> rfl) (by rfl) ?_
            refine wpList_storeW (vs := g'.arr ds y') (ST6.out.blkAt 0 rfl) (by rfl) 137 _ _ (by rfl) (by rfl) (by rfl) rfl Try.infoRefHand (by rw [← Array.all_toList]; rfl) ?_
            intro wd1 f_ b_
            have ST7 := Lib.hid (show Sta Wb (fun _ => True) dp ds [⟨q1, g'.arr ds y', 137⟩, ⟨q0, h'.arr x', 112⟩] [⟨146, 3, rv, o'.length, routs o'⟩, ⟨91, 8, ov, o'.length, houts o'⟩] (rhrows g' ds y' (hrows h' x' (hrows h x (rhrows g ds y [])))) wd1 from ST6.out.store 0 rfl f_ b_)
            clear ST6 f_ b_
            refine wpList_nil ?_
            refine ⟨⟨⟨wd1, HB.out _ ST7.out.fr⟩, rfl⟩, ?_⟩
            simp only [Act.put]
            refine wpV_e (by simp only [List.getElem?_toArray, List.getElem?_cons_succ, List.getElem?_cons_zero] <;> rfl) (by rfl) ?_
            go_wp2_with fail
            refine ⟨⟨⟨wd1, HB.out _ ST7.out.fr⟩, rfl⟩, ?_⟩
            refine wpV_done ?_
            clear zc this
            obtain ⟨ra, rc, rfl, hst⟩ := ST7.out.asRow 0 rfl
            obtain ⟨oa, oc, rfl, hst⟩ := hst.asRow 0 rfl
            have HX := Lib.hid hst
            clear hst ST7
            go_wp2_with fail
            go_meet
            exact ⟨h', x', g', y', ds, o', oa, oc, ra, rc, rfl, rfl, HI'.out, HF.out, HX.out.less (List.Sublist.refl _) (inC (at_ 0 rfl) (inC (at_ 1 rfl) (inC (at_ 6 rfl) (inC (at_ 7 rfl) (inC (at_ 8 rfl) (inC (at_ 2 rfl) (inC (at_ 3 rfl) (inC (at_ 4 rfl) (inC (at_ 5 rfl) inN)))))))))⟩
          case false =>
            cases e3v : (r2 == 3)
            case true =>
              have hI := inv_onYes HI.out n ST1.out.dr.range
              have CP := Lib.hid (fun O w (h1 : Sta w O dp ds [] [] (hrows h x []) w) => handOnYes_any h x n dp ds O w h1 HI.out.good)
              have CR := Lib.hid (fun D O w (h1 : Sta w O dp D [] [] (rhrows g ds y []) w) => refOnYes11_any g ds y n dp D O w h1 (HI.out.ok ST1.out.dr.range))
              have hF := few_onYes h n ds
              obtain ⟨h', o', d', e1⟩ : ∃ a b c, hOnYes h n ds = (a, b, c) := ⟨_, _, _, rfl⟩
              obtain ⟨g', o2, d2, e2⟩ : ∃ a b c, rhOnYes g n ds = (a, b, c) := ⟨_, _, _, rfl⟩
              rw [e1] at hI hF CP
              rw [e2] at hI CR
              simp only at hI hF CP CR
              obtain ⟨hI1, hI2⟩ := hI
              injection hI2 with hI2 hI3
              replace hI2 := hI2.symm
              replace hI3 := hI3.symm
              subst hI2 hI3
              have HI' := Lib.hid hI1
              have HF := Lib.hid hF
              clear hI1 hF e1 e2
              go_upto_region 21 with fail
              refine wp_region_lit ?_
              refine wpList_load_mid (by rfl) 112 _ (by rfl) q0 0 (by rfl) (Array.toList (Hd.arr h x)) _ (blk_range (ST1.out.blkAt 1 rfl)) Try.underlying112 rfl Try.infoHand ?_
              go_wp2_with fail
              refine (CP.out _ _ (ST1.out.enter (hrows h x []) (inC (at_ 0 rfl) (inC (at_ 1 rfl) (inC (at_ 2 rfl) inN))))).mono ?_
              intro e wa hst
              obtain ⟨x', ov, rfl, hst2, -⟩ := hst
              have ST2 := Lib.hid (show Sta Wb (fun _ => True) dp d' [⟨q1, Rh.arr g ds y, 137⟩, ⟨q0, Hd.arr h x, 112⟩] [⟨91, 8, ov, o'.length, houts o'⟩] (hrows h' x' (hrows h x (rhrows g ds y []))) wa from ST1.out.leave (inC (at_ 0 rfl) (inC (at_ 1 rfl) (inC (at_ 2 rfl) inN))) hst2)
              clear hst2 ST1
              go_wp2_with (refine wpList_storeW (vs := h'.arr x') (ST2.out.blkAt 1 rfl) (by rfl) 112 _ _ (by rfl) (by rfl) (by rfl) rfl Try.infoHand (by rw [← Array.all_toList]; rfl) ?_)
              intro wb f_ b_
              have ST3 := Lib.hid (show Sta Wb (fun _ => True) dp d' [⟨q1, Rh.arr g ds y, 137⟩, ⟨q0, h'.arr x', 112⟩] [⟨91, 8, ov, o'.length, houts o'⟩] (hrows h' x' (hrows h x (rhrows g ds y []))) wb from ST2.out.store 1 rfl f_ b_)
              clear ST2 f_ b_
              go_upto_region 22 with fail
              refine wp_region_lit ?_
              refine wpList_load_mid (by rfl) 137 _ (by rfl) q1 0 (by rfl) (Array.toList (Rh.arr g ds y)) _ (blk_range (ST3.out.blkAt 0 rfl)) Try.underlying137 rfl Try.infoRefHand ?_
              go_wp2_with fail
              refine (CR.out _ _ _ (ST3.out.enter (rhrows g ds y []) (inC (at_ 6 rfl) (inC (at_ 7 rfl) (inC (at_ 8 rfl) (inC (at_ 9 rfl) inN)))))).mono ?_
              intro e wc1 hst
              obtain ⟨y', rv, rfl, hst2⟩ := hst
              have ST4 := Lib.hid (show Sta Wb (fun _ => True) dp d' [⟨q1, Rh.arr g ds y, 137⟩, ⟨q0, h'.arr x', 112⟩] [⟨146, 3, rv, o'.length, routs o'⟩, ⟨91, 8, ov, o'.length, houts o'⟩] (rhrows g' d' y' (hrows h' x' (hrows h x (rhrows g ds y [])))) wc1 from ST3.out.leave (inC (at_ 6 rfl) (inC (at_ 7 rfl) (inC (at_ 8 rfl) (inC (at_ 9 rfl) inN)))) hst2)
              clear hst2 ST3
              go_wp2_with (refine wpList_storeW (vs := g'.arr d' y') (ST4.out.blkAt 0 rfl) (by rfl) 137 _ _ (by rfl) (by rfl) (by rfl) rfl Try.infoRefHand (by rw [← Array.all_toList]; rfl) ?_)
              intro wd1 f_ b_
              have ST5 := Lib.hid (show Sta Wb (fun _ => True) dp d' [⟨q1, g'.arr d' y', 137⟩, ⟨q0, h'.arr x', 112⟩] [⟨146, 3, rv, o'.length, routs o'⟩, ⟨91, 8, ov, o'.length, houts o'⟩] (rhrows g' d' y' (hrows h' x' (hrows h x (rhrows g ds y [])))) wd1 from ST4.out.store 0 rfl f_ b_)
              clear ST4 f_ b_
              obtain ⟨ra, rc, rfl, hst⟩ := ST5.out.asRow 0 rfl
              obtain ⟨oa, oc, rfl, hst⟩ := hst.asRow 0 rfl
              have HX := Lib.hid hst
              clear hst ST5
              go_wp2_with fail
              go_meet
              exact ⟨h', x', g', y', d', o', oa, oc, ra, rc, rfl, rfl, HI'.out, HF.out, HX.out.less (List.Sublist.refl _) (inC (at_ 0 rfl) (inC (at_ 1 rfl) (inC (at_ 6 rfl) (inC (at_ 7 rfl) (inC (at_ 8 rfl) (inC (at_ 2 rfl) (inC (at_ 3 rfl) (inC (at_ 4 rfl) (inC (at_ 5 rfl) inN)))))))))⟩
            case false =>
              cases e4v : (r2 == 4)
              case true =>
                have hI := inv_onNo HI.out n ST1.out.dr.range
                have CP := Lib.hid (fun O w (h1 : Sta w O dp ds [] [] (hrows h x []) w) => handOnNo_any h x n dp ds O w h1 HI.out.good)
                have CR := Lib.hid (fun D O w (h1 : Sta w O dp D [] [] (rhrows g ds y []) w) => refOnNo11_any g ds y n dp D O w h1 (HI.out.ok ST1.out.dr.range))
                have hF := few_onNo h n ds
                obtain ⟨h', o', d', e1⟩ : ∃ a b c, hOnNo h n ds = (a, b, c) := ⟨_, _, _, rfl⟩
                obtain ⟨g', o2, d2, e2⟩ : ∃ a b c, rhOnNo g n ds = (a, b, c) := ⟨_, _, _, rfl⟩
                rw [e1] at hI hF CP
                rw [e2] at hI CR
                simp only at hI hF CP CR
                obtain ⟨hI1, hI2⟩ := hI
                injection hI2 with hI2 hI3
                replace hI2 := hI2.symm
                replace hI3 := hI3.symm
                subst hI2 hI3
                have HI' := Lib.hid hI1
                have HF := Lib.hid hF
                clear hI1 hF e1 e2
                go_upto_region 24 with fail
                refine wp_region_lit ?_
                refine wpList_load_mid (by rfl) 112 _ (by rfl) q0 0 (by rfl) (Array.toList (Hd.arr h x)) _ (blk_range (ST1.out.blkAt 1 rfl)) Try.underlying112 rfl Try.infoHand ?_
                go_wp2_with fail
                refine (CP.out _ _ (ST1.out.enter (hrows h x []) (inC (at_ 0 rfl) (inC (at_ 1 rfl) (inC (at_ 2 rfl) inN))))).mono ?_
                intro e wa hst
                obtain ⟨x', ov, rfl, hst2, -⟩ := hst
                have ST2 := Lib.hid (show Sta Wb (fun _ => True) dp d' [⟨q1, Rh.arr g ds y, 137⟩, ⟨q0, Hd.arr h x, 112⟩] [⟨91, 8, ov, o'.length, houts o'⟩] (hrows h' x' (hrows h x (rhrows g ds y []))) wa from ST1.out.leave (inC (at_ 0 rfl) (inC (at_ 1 rfl) (inC (at_ 2 rfl) inN))) hst2)
                clear hst2 ST1
                go_wp2_with (refine wpList_storeW (vs := h'.arr x') (ST2.out.blkAt 1 rfl) (by rfl) 112 _ _ (by rfl) (by rfl) (by rfl) rfl Try.infoHand (by rw [← Array.all_toList]; rfl) ?_)
                intro wb f_ b_
                have ST3 := Lib.hid (show Sta Wb (fun _ => True) dp d' [⟨q1, Rh.arr g ds y, 137⟩, ⟨q0, h'.arr x', 112⟩] [⟨91, 8, ov, o'.length, houts o'⟩] (hrows h' x' (hrows h x (rhrows g ds y []))) wb from ST2.out.store 1 rfl f_ b_)
                clear ST2 f_ b_
                go_upto_region 25 with fail
                refine wp_region_lit ?_
                refine wpList_load_mid (by rfl) 137 _ (by rfl) q1 0 (by rfl) (Array.toList (Rh.arr g ds y)) _ (blk_range (ST3.out.blkAt 0 rfl)) Try.underlying137 rfl Try.infoRefHand ?_
                go_wp2_with fail
                refine (CR.out _ _ _ (ST3.out.enter (rhrows g ds y []) (inC (at_ 6 rfl) (inC (at_ 7 rfl) (inC (at_ 8 rfl) (inC (at_ 9 rfl) inN)))))).mono ?_
                intro e wc1 hst
                obtain ⟨y', rv, rfl, hst2⟩ := hst
                have ST4 := Lib.hid (show Sta Wb (fun _ => True) dp d' [⟨q1, Rh.arr g ds y, 137⟩, ⟨q0, h'.arr x', 112⟩] [⟨146, 3, rv, o'.length, routs o'⟩, ⟨91, 8, ov, o'.length, houts o'⟩] (rhrows g' d' y' (hrows h' x' (hrows h x (rhrows g ds y [])))) wc1 from ST3.out.leave (inC (at_ 6 rfl) (inC (at_ 7 rfl) (inC (at_ 8 rfl) (inC (at_ 9 rfl) inN)))) hst2)
                clear hst2 ST3
                go_wp2_with (refine wpList_storeW (vs := g'.arr d' y') (ST4.out.blkAt 0 rfl) (by rfl) 137 _ _ (by rfl) (by rfl) (by rfl) rfl Try.infoRefHand (by rw [← Array.all_toList]; rfl) ?_)
                intro wd1 f_ b_
                have ST5 := Lib.hid (show Sta Wb (fun _ => True) dp d' [⟨q1, g'.arr d' y', 137⟩, ⟨q0, h'.arr x', 112⟩] [⟨146, 3, rv, o'.length, routs o'⟩, ⟨91, 8, ov, o'.length, houts o'⟩] (rhrows g' d' y' (hrows h' x' (hrows h x (rhrows g ds y [])))) wd1 from ST4.out.store 0 rfl f_ b_)
                clear ST4 f_ b_
                obtain ⟨ra, rc, rfl, hst⟩ := ST5.out.asRow 0 rfl
                obtain ⟨oa, oc, rfl, hst⟩ := hst.asRow 0 rfl
                have HX := Lib.hid hst
                clear hst ST5
                go_wp2_with fail
                go_meet
                exact ⟨h', x', g', y', d', o', oa, oc, ra, rc, rfl, rfl, HI'.out, HF.out, HX.out.less (List.Sublist.refl _) (inC (at_ 0 rfl) (inC (at_ 1 rfl) (inC (at_ 6 rfl) (inC (at_ 7 rfl) (inC (at_ 8 rfl) (inC (at_ 2 rfl) (inC (at_ 3 rfl) (inC (at_ 4 rfl) (inC (at_ 5 rfl) inN)))))))))⟩
              case false =>
                cases e5v : (r2 == 5)
                case true =>
                  have hI := inv_onBye HI.out n ST1.out.dr.range
                  have CP := Lib.hid (fun O w (h1 : Sta w O dp ds [] [] (hrows h x []) w) => handOnBye_any h x n dp ds O w h1 HI.out.good)
                  have CR := Lib.hid (fun D O w (h1 : Sta w O dp D [] [] (rhrows g ds y []) w) => refOnBye11_any g ds y n dp D O w h1 (HI.out.ok ST1.out.dr.range))
                  obtain ⟨h', d', e1⟩ : ∃ a b, hOnBye h n ds = (a, b) := ⟨_, _, rfl⟩
                  obtain ⟨g', d2, e2⟩ : ∃ a b, rhOnBye g n ds = (a, b) := ⟨_, _, rfl⟩
                  rw [e1] at hI CP
                  rw [e2] at hI CR
                  simp only at hI CP CR
                  obtain ⟨hI1, hI2⟩ := hI
                  replace hI2 := hI2.symm
                  subst hI2
                  have HI' := Lib.hid hI1
                  clear hI1 e1 e2
                  go_upto_region 27 with fail
                  obtain ⟨wz, hwd⟩ : ∃ x, x = wr.drew := ⟨_, rfl⟩
                  have HWD := Lib.hid hwd
                  have ST2 := Lib.hid (show Sta Wb (fun _ => True) dp ds [⟨q1, Rh.arr g ds y, 137⟩, ⟨q0, Hd.arr h x, 112⟩] [] (hrows h x (rhrows g ds y [])) wz from hwd ▸ ST1.out.gr ((Fr.refl _ _).drew))
                  clear ST1 hwd
                  haveI : Nonempty (WC (fun w => w.heap[q1]? = some (.cells (Rh.arr g ds y) 137 (0, 0)))) := ⟨⟨wz, ST2.out.blkAt 0 rfl⟩⟩
                  refine wp_region_lastO 8 [0, 3, 6, 7] [] [0, 1, 2, 3, 4, 5, 6, 7] (fun w' => ∃ z : WC (fun w => w.heap[q1]? = some (.cells (Rh.arr g ds y) 137 (0, 0))), w' = z.val) (by kernel_rfl) (by kernel_rfl) (fun c a w d v h => by cases d <;> exact h) (fun c a w d v h => by cases d <;> exact h) (by rw [← HWD.out]; exact ⟨⟨wz, ST2.out.blkAt 0 rfl⟩, rfl⟩) ?_
                  rw [← HWD.out]
                  clear HWD
                  simp only [List.take]
                  refine wpT_e (by simp only [List.getElem?_toArray, List.getElem?_cons_zero] <;> rfl) (by rfl) ?_
                  refine wpList_load_mid (by rfl) 112 _ (by rfl) q0 0 (by rfl) (Array.toList (Hd.arr h x)) _ (blk_range (ST2.out.blkAt 1 rfl)) Try.underlying112 rfl Try.infoHand ?_
                  refine wpList_nil ?_
                  refine ⟨⟨⟨wz, ST2.out.blkAt 0 rfl⟩, rfl⟩, ?_⟩
                  simp only [Act.put, List.setIfInBounds_toArray, List.set_cons_succ, List.set_cons_zero]
                  refine wpT_q (by simp only [List.getElem?_toArray, List.getElem?_cons_succ, List.getElem?_cons_zero] <;> rfl) (by rfl) (by rfl) ?_
                  go_big_quiet_step (fail)
                  refine wpQuiet_nil ?_
                  refine wpT_q (by simp only [List.getElem?_toArray, List.getElem?_cons_succ, List.getElem?_cons_zero] <;> rfl) (by rfl) (by rfl) ?_
                  go_big_quiet_step (fail)
                  refine wpQuiet_nil ?_
                  refine wpT_e (by simp only [List.getElem?_toArray, List.getElem?_cons_succ, List.getElem?_cons_zero] <;> rfl) (by rfl) ?_
                  go_wp2_with fail
                  refine (CP.out _ _ (ST2.out.enter (hrows h x []) (inC (at_ 0 rfl) (inC (at_ 1 rfl) (inC (at_ 2 rfl) inN))))).mono ?_
                  intro e wa hst
                  obtain ⟨x', rfl, hst2, -⟩ := hst
                  have ST3 := Lib.hid (show Sta Wb (fun _ => True) dp d' [⟨q1, Rh.arr g ds y, 137⟩, ⟨q0, Hd.arr h x, 112⟩] [] (hrows h' x' (hrows h x (rhrows g ds y []))) wa from ST2.out.leave (inC (at_ 0 rfl) (inC (at_ 1 rfl) (inC (at_ 2 rfl) inN))) hst2)
                  clear hst2 ST2
                  go_wp2_with fail
                  refine ⟨⟨⟨wa, ST3.out.blkAt 0 rfl⟩, rfl⟩, ?_⟩
                  refine wpT_q (by simp only [List.getElem?_toArray, List.getElem?_cons_succ, List.getElem?_cons_zero] <;> rfl) (by rfl) (by rfl) ?_
                  refine wpQuiet_loadH (by rfl) 137 _ (by rfl) q1 0 (by rfl) (Array.toList (Rh.arr g ds y)) _ (fun w ⟨z, hz⟩ => hz ▸ blk_range z.ok) Try.underlying137 rfl Try.infoRefHand ?_
                  refine wpQuiet_nil ?_
                  simp only [Act.put, List.setIfInBounds_toArray, List.set_cons_succ, List.set_cons_zero]
                  refine wpT_q (by simp only [List.getElem?_toArray, List.getElem?_cons_succ, List.getElem?_cons_zero] <;> rfl) (by rfl) (by rfl) ?_
                  go_big_quiet_step (fail)
                  refine wpQuiet_nil ?_
                  refine wpT_e (by simp only [List.getElem?_toArray, List.getElem?_cons_succ, List.getElem?_cons_zero] <;> rfl) (by rfl) ?_
                  go_wp2_with fail
                  refine (CR.out _ _ _ (ST3.out.enter (rhrows g ds y []) (inC (at_ 6 rfl) (inC (at_ 7 rfl) (inC (at_ 8 rfl) (inC (at_ 9 rfl) inN)))))).mono ?_
                  intro e wb hst
                  obtain ⟨y', rfl, hst2⟩ := hst
                  have ST4 := Lib.hid (show Sta Wb (fun _ => True) dp d' [⟨q1, Rh.arr g ds y, 137⟩, ⟨q0, Hd.arr h x, 112⟩] [] (rhrows g' d' y' (hrows h' x' (hrows h x (rhrows g ds y [])))) wb from ST3.out.leave (inC (at_ 6 rfl) (inC (at_ 7 rfl) (inC (at_ 8 rfl) (inC (at_ 9 rfl) inN)))) hst2)
                  clear hst2 ST3
                  go_wp2_with fail
                  refine ⟨⟨⟨wb, ST4.out.blkAt 0 rfl⟩, rfl⟩, ?_⟩
                  refine wpT_e (by simp only [List.getElem?_toArray, List.getElem?_cons_succ, List.getElem?_cons_zero] <;> rfl) (by rfl) ?_
                  refine wpList_storeW (vs := h'.arr x') (ST4.out.blkAt 1 rfl) (by rfl) 112 _ _ (by rfl) (by rfl) (by rfl) rfl Try.infoHand (by rw [← Array.all_toList]; rfl) ?_
                  intro wc1 f_ b_
                  have ST5 := Lib.hid (show Sta Wb (fun _ => True) dp d' [⟨q1, Rh.arr g ds y, 137⟩, ⟨q0, h'.arr x', 112⟩] [] (rhrows g' d' y' (hrows h' x' (hrows h x (rhrows g ds y [])))) wc1 from ST4.out.store 1 rfl f_ b_)
                  clear ST4 f_ b_
                  refine wpList_nil ?_
                  refine ⟨⟨⟨wc1, ST5.out.blkAt 0 rfl⟩, rfl⟩, ?_⟩
                  simp only [Act.put]
                  clear this
                  refine wpT_nil ?_
                  simp only [lastQ, List.drop]
                  go_wp2_with (refine wpList_storeW (vs := g'.arr d' y') (ST5.out.blkAt 0 rfl) (by rfl) 137 _ _ (by rfl) (by rfl) (by rfl) rfl Try.infoRefHand (by rw [← Array.all_toList]; rfl) ?_)
                  intro wd1 f_ b_
                  have ST6 := Lib.hid (show Sta Wb (fun _ => True) dp d' [⟨q1, g'.arr d' y', 137⟩, ⟨q0, h'.arr x', 112⟩] [] (rhrows g' d' y' (hrows h' x' (hrows h x (rhrows g ds y [])))) wd1 from ST5.out.store 0 rfl f_ b_)
                  clear ST5 f_ b_
                  go_wp2_with fail
                  go_meet
                  exact ⟨h', x', g', y', d', [], none, 0, none, 0, rfl, rfl, HI'.out, by decide, (ST6.out.addRow (r := ⟨none, 0, 0, []⟩) (SlA.nil _) (fun h => absurd rfl h)).addRow (r := ⟨none, 0, 0, []⟩) (SlA.nil _) (fun h => absurd rfl h) |>.less (List.Sublist.refl _) (inC (at_ 0 rfl) (inC (at_ 1 rfl) (inC (at_ 6 rfl) (inC (at_ 7 rfl) (inC (at_ 8 rfl) (inC (at_ 2 rfl) (inC (at_ 3 rfl) (inC (at_ 4 rfl) (inC (at_ 5 rfl) inN)))))))))⟩
                case false =>
                  cases e6v : (r2 == 6)
                  case true =>
                    have hI := inv_onBreak HI.out n ST1.out.dr.range
                    have CP := Lib.hid (fun O w (h1 : Sta w O dp ds [] [] (hrows h x []) w) => handOnBreak_any h x n dp ds O w h1 HI.out.good)
                    have CR := Lib.hid (fun D O w (h1 : Sta w O dp D [] [] (rhrows g ds y []) w) => refOnBreak11_any g ds y n dp D O w h1 (HI.out.ok ST1.out.dr.range))
                    obtain ⟨hI1, hI2⟩ := hI
                    rw [hI2] at CR
                    generalize hOnBreak h n = h' at hI1 CP
                    generalize rhOnBreak g n ds = g' at hI1 CR
                    have HI' := Lib.hid hI1
                    clear hI1 hI2
                    go_upto_region 29 with fail
                    obtain ⟨wz, hwd⟩ : ∃ x, x = wr.drew := ⟨_, rfl⟩
                    have HWD := Lib.hid hwd
                    have ST2 := Lib.hid (show Sta Wb (fun _ => True) dp ds [⟨q1, Rh.arr g ds y, 137⟩, ⟨q0, Hd.arr h x, 112⟩] [] (hrows h x (rhrows g ds y [])) wz from hwd ▸ ST1.out.gr ((Fr.refl _ _).drew))
                    clear ST1 hwd
                    haveI : Nonempty (WC (fun w => w.heap[q1]? = some (.cells (Rh.arr g ds y) 137 (0, 0)))) := ⟨⟨wz, ST2.out.blkAt 0 rfl⟩⟩
                    refine wp_region_lastO 7 [0, 2, 5, 6] [] [0, 1, 2, 3, 4, 5, 6] (fun w' => ∃ z : WC (fun w => w.heap[q1]? = some (.cells (Rh.arr g ds y) 137 (0, 0))), w' = z.val) (by kernel_rfl) (by kernel_rfl) (fun c a w d v h => by cases d <;> exact h) (fun c a w d v h => by cases d <;> exact h) (by rw [← HWD.out]; exact ⟨⟨wz, ST2.out.blkAt 0 rfl⟩, rfl⟩) ?_
                    rw [← HWD.out]
                    clear HWD
                    simp only [List.take]
                    refine wpT_e (by simp only [List.getElem?_toArray, List.getElem?_cons_zero] <;> rfl) (by rfl) ?_
                    refine wpList_load_mid (by rfl) 112 _ (by rfl) q0 0 (by rfl) (Array.toList (Hd.arr h x)) _ (blk_range (ST2.out.blkAt 1 rfl)) Try.underlying112 rfl Try.infoHand ?_
                    refine wpList_nil ?_
                    refine ⟨⟨⟨wz, ST2.out.blkAt 0 rfl⟩, rfl⟩, ?_⟩
                    simp only [Act.put, List.setIfInBounds_toArray, List.set_cons_succ, List.set_cons_zero]
                    refine wpT_q (by simp only [List.getElem?_toArray, List.getElem?_cons_succ, List.getElem?_cons_zero] <;> rfl) (by rfl) (by rfl) ?_
                    go_big_quiet_step (fail)
                    refine wpQuiet_nil ?_
                    refine wpT_e (by simp only [List.getElem?_toArray, List.getElem?_cons_succ, List.getElem?_cons_zero] <;> rfl) (by rfl) ?_
                    go_wp2_with fail
                    refine (CP.out _ _ (ST2.out.enter (hrows h x []) (inC (at_ 0 rfl) (inC (at_ 1 rfl) (inC (at_ 2 rfl) inN))))).mono ?_
                    intro e wa hst
                    obtain ⟨x', rfl, hst2, -⟩ := hst
                    have ST3 := Lib.hid (show Sta Wb (fun _ => True) dp ds [⟨q1, Rh.arr g ds y, 137⟩, ⟨q0, Hd.arr h x, 112⟩] [] (hrows h' x' (hrows h x (rhrows g ds y []))) wa from ST2.out.leave (inC (at_ 0 rfl) (inC (at_ 1 rfl) (inC (at_ 2 rfl) inN))) hst2)
                    clear hst2 ST2
                    go_wp2_with fail
                    refine ⟨⟨⟨wa, ST3.out.blkAt 0 rfl⟩, rfl⟩, ?_⟩
                    refine wpT_q (by simp only [List.getElem?_toArray, List.getElem?_cons_succ, List.getElem?_cons_zero] <;> rfl) (by rfl) (by rfl) ?_
                    refine wpQuiet_loadH (by rfl) 137 _ (by rfl) q1 0 (by rfl) (Array.toList (Rh.arr g ds y)) _ (fun w ⟨z, hz⟩ => hz ▸ blk_range z.ok) Try.underlying137 rfl Try.infoRefHand ?_
                    refine wpQuiet_nil ?_
                    simp only [Act.put, List.setIfInBounds_toArray, List.set_cons_succ, List.set_cons_zero]
                    refine wpT_q (by simp only [List.getElem?_toArray, List.getElem?_cons_succ, List.getElem?_cons_zero] <;> rfl) (by rfl) (by rfl) ?_
                    go_big_quiet_step (fail)
                    refine wpQuiet_nil ?_
                    refine wpT_e (by simp only [List.getElem?_toArray, List.getElem?_cons_succ, List.getElem?_cons_zero] <;> rfl) (by rfl) ?_
                    go_wp2_with fail
                    refine (CR.out _ _ _ (ST3.out.enter (rhrows g ds y []) (inC (at_ 6 rfl) (inC (at_ 7 rfl) (inC (at_ 8 rfl) (inC (at_ 9 rfl) inN)))))).mono ?_
                    intro e wb hst
                    obtain ⟨y', rfl, hst2⟩ := hst
                    have ST4 := Lib.hid (show Sta Wb (fun _ => True) dp ds [⟨q1, Rh.arr g ds y, 137⟩, ⟨q0, Hd.arr h x, 112⟩] [] (rhrows g' ds y' (hrows h' x' (hrows h x (rhrows g ds y [])))) wb from ST3.out.leave (inC (at_ 6 rfl) (inC (at_ 7 rfl) (inC (at_ 8 rfl) (inC (at_ 9 rfl) inN)))) hst2)
                    clear hst2 ST3
                    go_wp2_with fail
                    refine ⟨⟨⟨wb, ST4.out.blkAt 0 rfl⟩, rfl⟩, ?_⟩
                    refine wpT_e (by simp only [List.getElem?_toArray, List.getElem?_cons_succ, List.getElem?_cons_zero] <;> rfl) (by rfl) ?_
                    refine wpList_storeW (vs := h'.arr x') (ST4.out.blkAt 1 rfl) (by rfl) 112 _ _ (by rfl) (by rfl) (by rfl) rfl Try.infoHand (by rw [← Array.all_toList]; rfl) ?_
                    intro wc1 f_ b_
                    have ST5 := Lib.hid (show Sta Wb (fun _ => True) dp ds [⟨q1, Rh.arr g ds y, 137⟩, ⟨q0, h'.arr x', 112⟩] [] (rhrows g' ds y' (hrows h' x' (hrows h x (rhrows g ds y [])))) wc1 from ST4.out.store 1 rfl f_ b_)
                    clear ST4 f_ b_
                    refine wpList_nil ?_
                    refine ⟨⟨⟨wc1, ST5.out.blkAt 0 rfl⟩, rfl⟩, ?_⟩
                    simp only [Act.put]
                    clear this
                    refine wpT_nil ?_
                    simp only [lastQ, List.drop]
                    go_wp2_with (refine wpList_storeW (vs := g'.arr ds y') (ST5.out.blkAt 0 rfl) (by rfl) 137 _ _ (by rfl) (by rfl) (by rfl) rfl Try.infoRefHand (by rw [← Array.all_toList]; rfl) ?_)
                    intro wd1 f_ b_
                    have ST6 := Lib.hid (show Sta Wb (fun _ => True) dp ds [⟨q1, g'.arr ds y', 137⟩, ⟨q0, h'.arr x', 112⟩] [] (rhrows g' ds y' (hrows h' x' (hrows h x (rhrows g ds y [])))) wd1 from ST5.out.store 0 rfl f_ b_)
                    clear ST5 f_ b_
                    go_wp2_with fail
                    go_meet
                    exact ⟨h', x', g', y', ds, [], none, 0, none, 0, rfl, rfl, HI'.out, by decide, (ST6.out.addRow (r := ⟨none, 0, 0, []⟩) (SlA.nil _) (fun h => absurd rfl h)).addRow (r := ⟨none, 0, 0, []⟩) (SlA.nil _) (fun h => absurd rfl h) |>.less (List.Sublist.refl _) (inC (at_ 0 rfl) (inC (at_ 1 rfl) (inC (at_ 6 rfl) (inC (at_ 7 rfl) (inC (at_ 8 rfl) (inC (at_ 2 rfl) (inC (at_ 3 rfl) (inC (at_ 4 rfl) (inC (at_ 5 rfl) inN)))))))))⟩
                  case false =>
                    have hI := inv_onAsk HI.out n hg ST1.out.dr.range
                    have CP := Lib.hid (fun O w (h1 : Sta w O dp ds [] [] (hrows h x []) w) => handOnAsk_any h x n hg dp ds O w h1 HI.out.good)
                    have CR := Lib.hid (fun D O w (h1 : Sta w O dp D [] [] (rhrows g ds y []) w) => refOnAsk11_any g ds y n hg dp D O w h1 (HI.out.ok ST1.out.dr.range))
                    have hF := few_onAsk h n hg ds
                    obtain ⟨h', o', d', e1⟩ : ∃ a b c, hOnAsk h n hg ds = (a, b, c) := ⟨_, _, _, rfl⟩
                    obtain ⟨g', o2, d2, e2⟩ : ∃ a b c, rhOnAsk g n hg ds = (a, b, c) := ⟨_, _, _, rfl⟩
                    rw [e1] at hI hF CP
                    rw [e2] at hI CR
                    simp only at hI hF CP CR
                    obtain ⟨hI1, hI2⟩ := hI
                    injection hI2 with hI2 hI3
                    replace hI2 := hI2.symm
                    replace hI3 := hI3.symm
                    subst hI2 hI3
                    have HI' := Lib.hid hI1
                    have HF := Lib.hid hF
                    clear hI1 hF e1 e2
                    go_upto_region 15 with fail
                    obtain ⟨wzd, hwd⟩ : ∃ x, x = wr.drew := ⟨_, rfl⟩
                    have HWD := Lib.hid hwd
                    have ST2 := Lib.hid (show Sta Wb (fun _ => True) dp ds [⟨q1, Rh.arr g ds y, 137⟩, ⟨q0, Hd.arr h x, 112⟩] [] (hrows h x (rhrows g ds y [])) wzd from hwd ▸ ST1.out.gr ((Fr.refl _ _).drew))
                    clear ST1 hwd
                    haveI : Nonempty (WC (fun w => w.cell? ⟨bl, ol + k * 3 + 2, none⟩ = some (.bool hg))) := ⟨⟨wzd, HB.out _ ST2.out.fr⟩⟩
                    have zc : ∀ z : WC (fun w => w.cell? ⟨bl, ol + k * 3 + 2, none⟩ = some (.bool hg)), z.val.cell? ⟨bl, ol + k * 3 + 2, none⟩ = some (.bool hg) := fun z => z.ok
                    refine wp_region_plan [0, 8, 12, 13] (Plan.seq [0, 1, 2, 3, 4, 5, 6, 7, 8, 9, 10, 11, 12, 13] .done) (fun w' => ∃ z : WC (fun w => w.cell? ⟨bl, ol + k * 3 + 2, none⟩ = some (.bool hg)), w' = z.val) (by kernel_rfl) (by kernel_rfl) (fun c a w d v h => by cases d <;> exact h) (fun c a w d v h => by cases d <;> exact h) (by rw [← HWD.out]; exact ⟨⟨wzd, HB.out _ ST2.out.fr⟩, rfl⟩) ?_
                    rw [← HWD.out]
                    clear HWD
                    refine wpV_e (by simp only [List.getElem?_toArray, List.getElem?_cons_zero] <;> rfl) (by rfl) ?_
                    refine wpList_load_mid (by rfl) 112 _ (by rfl) q0 0 (by rfl) (Array.toList (Hd.arr h x)) _ (blk_range (ST2.out.blkAt 1 rfl)) Try.underlying112 rfl Try.infoHand ?_
                    refine wpList_nil ?_
                    refine ⟨⟨⟨wzd, HB.out _ ST2.out.fr⟩, rfl⟩, ?_⟩
                    simp only [Act.put, List.setIfInBounds_toArray, List.set_cons_succ, List.set_cons_zero]
                    refine wpV_q (by simp only [List.getElem?_toArray, List.getElem?_cons_succ, List.getElem?_cons_zero] <;> rfl) (by rfl) (by rfl) ?_
                    go_big_quiet_step (fail)
                    refine wpQuiet_nil ?_
                    refine wpV_q (by simp only [List.getElem?_toArray, List.getElem?_cons_succ, List.getElem?_cons_zero] <;> rfl) (by rfl) (by rfl) ?_
                    go_big_quiet_step (fail)
                    refine wpQuiet_nil ?_
                    refine wpV_q (by simp only [List.getElem?_toArray, List.getElem?_cons_succ, List.getElem?_cons_zero] <;> rfl) (by rfl) (by rfl) ?_
                    go_big_quiet_step (fail)
                    refine wpQuiet_nil ?_
                    refine wpV_q (by simp only [List.getElem?_toArray, List.getElem?_cons_succ, List.getElem?_cons_zero] <;> rfl) (by rfl) (by rfl) ?_
                    go_big_quiet_step (fail)
                    refine wpQuiet_nil ?_
                    refine wpV_q (by simp only [List.getElem?_toArray, List.getElem?_cons_succ, List.getElem?_cons_zero] <;> rfl) (by rfl) (by rfl) ?_
                    go_big_quiet_step (fail)
                    refine wpQuiet_nil ?_
                    refine wpV_q (by simp only [List.getElem?_toArray, List.getElem?_cons_succ, List.getElem?_cons_zero] <;> rfl) (by rfl) (by rfl) ?_
                    go_big_quiet_step (fail)
                    refine wpQuiet_nil ?_
                    refine wpV_q (by simp only [List.getElem?_toArray, List.getElem?_cons_succ, List.getElem?_cons_zero] <;> rfl) (by rfl) (by rfl) ?_
                    go_big_quiet_step (fail)
                    refine wpQuiet_nil ?_
                    refine wpV_e (by simp only [List.getElem?_toArray, List.getElem?_cons_succ, List.getElem?_cons_zero] <;> rfl) (by rfl) ?_
                    go_wp2_with fail
                    refine (CP.out _ _ (ST2.out.enter (hrows h x []) (inC (at_ 0 rfl) (inC (at_ 1 rfl) (inC (at_ 2 rfl) inN))))).mono ?_
                    intro e wa hst
                    obtain ⟨x', ov, rfl, hst2, -⟩ := hst
                    have ST3 := Lib.hid (show Sta Wb (fun _ => True) dp d' [⟨q1, Rh.arr g ds y, 137⟩, ⟨q0, Hd.arr h x, 112⟩] [⟨91, 8, ov, o'.length, houts o'⟩] (hrows h' x' (hrows h x (rhrows g ds y []))) wa from ST2.out.leave (inC (at_ 0 rfl) (inC (at_ 1 rfl) (inC (at_ 2 rfl) inN))) hst2)
                    clear hst2 ST2
                    go_wp2_with fail
                    refine ⟨⟨⟨wa, HB.out _ ST3.out.fr⟩, rfl⟩, ?_⟩
                    refine wpV_q (by simp only [List.getElem?_toArray, List.getElem?_cons_succ, List.getElem?_cons_zero] <;> rfl) (by rfl) (by rfl) ?_
                    go_big_quiet_step (fail)
                    refine wpQuiet_nil ?_
                    refine wpV_q (by simp only [List.getElem?_toArray, List.getElem?_cons_succ, List.getElem?_cons_zero] <;> rfl) (by rfl) (by rfl) ?_
                    go_big_quiet_step (fail)
                    refine wpQuiet_nil ?_
                    refine wpV_q (by simp only [List.getElem?_toArray, List.getElem?_cons_succ, List.getElem?_cons_zero] <;> rfl) (by rfl) (by rfl) ?_
                    go_big_quiet_step (fail)
                    refine wpQuiet_nil ?_
                    refine wpV_e (by simp only [List.getElem?_toArray, List.getElem?_cons_succ, List.getElem?_cons_zero] <;> rfl) (by rfl) ?_
                    refine wpList_storeW (vs := h'.arr x') (ST3.out.blkAt 1 rfl) (by rfl) 112 _ _ (by rfl) (by rfl) (by rfl) rfl Try.infoHand (by rw [← Array.all_toList]; rfl) ?_
                    intro wb f_ b_
                    have ST4 := Lib.hid (show Sta Wb (fun _ => True) dp d' [⟨q1, Rh.arr g ds y, 137⟩, ⟨q0, h'.arr x', 112⟩] [⟨91, 8, ov, o'.length, houts o'⟩] (hrows h' x' (hrows h x (rhrows g ds y []))) wb from ST3.out.store 1 rfl f_ b_)
                    clear ST3 f_ b_
                    refine wpList_nil ?_
                    refine ⟨⟨⟨wb, HB.out _ ST4.out.fr⟩, rfl⟩, ?_⟩
                    simp only [Act.put]
                    refine wpV_e (by simp only [List.getElem?_toArray, List.getElem?_cons_succ, List.getElem?_cons_zero] <;> rfl) (by rfl) ?_
                    go_wp2_with fail
                    refine ⟨⟨⟨wb, HB.out _ ST4.out.fr⟩, rfl⟩, ?_⟩
                    refine wpV_done ?_
                    clear zc this
                    go_upto_region 16 with fail
                    obtain ⟨wyd, hwd⟩ : ∃ x, x = wb.drew := ⟨_, rfl⟩
                    have HWD := Lib.hid hwd
                    have ST5 := Lib.hid (show Sta Wb (fun _ => True) dp d' [⟨q1, Rh.arr g ds y, 137⟩, ⟨q0, h'.arr x', 112⟩] [⟨91, 8, ov, o'.length, houts o'⟩] (hrows h' x' (hrows h x (rhrows g ds y []))) wyd from hwd ▸ ST4.out.gr ((Fr.refl _ _).drew))
                    clear ST4 hwd
                    haveI : Nonempty (WC (fun w => w.cell? ⟨bl, ol + k * 3 + 2, none⟩ = some (.bool hg))) := ⟨⟨wyd, HB.out _ ST5.out.fr⟩⟩
                    have zc : ∀ z : WC (fun w => w.cell? ⟨bl, ol + k * 3 + 2, none⟩ = some (.bool hg)), z.val.cell? ⟨bl, ol + k * 3 + 2, none⟩ = some (.bool hg) := fun z => z.ok
                    refine wp_region_plan [0, 7, 11, 12] (Plan.seq [0, 1, 2, 3, 4, 5, 6, 7, 8, 9, 10, 11, 12] .done) (fun w' => ∃ z : WC (fun w => w.cell? ⟨bl, ol + k * 3 + 2, none⟩ = some (.bool hg)), w' = z.val) (by kernel_rfl) (by kernel_rfl) (fun c a w d v h => by cases d <;> exact h) (fun c a w d v h => by cases d <;> exact h) (by rw [← HWD.out]; exact ⟨⟨wyd, HB.out _ ST5.out.fr⟩, rfl⟩) ?_
                    rw [← HWD.out]
                    clear HWD
                    refine wpV_e (by simp only [List.getElem?_toArray, List.getElem?_cons_zero] <;> rfl) (by rfl) ?_
                    refine wpList_load_mid (by rfl) 137 _ (by rfl) q1 0 (by rfl) (Array.toList (Rh.arr g ds y)) _ (blk_range (ST5.out.blkAt 0 rfl)) Try.underlying137 rfl Try.infoRefHand ?_
                    refine wpList_nil ?_
                    refine ⟨⟨⟨wyd, HB.out _ ST5.out.fr⟩, rfl⟩, ?_⟩
                    simp only [Act.put, List.setIfInBounds_toArray, List.set_cons_succ, List.set_cons_zero]
                    refine wpV_q (by simp only [List.getElem?_toArray, List.getElem?_cons_succ, List.getElem?_cons_zero] <;> rfl) (by rfl) (by rfl) ?_
                    go_big_quiet_step (fail)
                    refine wpQuiet_nil ?_
                    refine wpV_q (by simp only [List.getElem?_toArray, List.getElem?_cons_succ, List.getElem?_cons_zero] <;> rfl) (by rfl) (by rfl) ?_
                    go_big_quiet_step (fail)
                    refine wpQuiet_nil ?_
                    refine wpV_q (by simp only [List.getElem?_toArray, List.getElem?_cons_succ, List.getElem?_cons_zero] <;> rfl) (by rfl) (by rfl) ?_
                    go_big_quiet_step (fail)
                    refine wpQuiet_nil ?_
                    refine wpV_q (by simp only [List.getElem?_toArray, List.getElem?_cons_succ, List.getElem?_cons_zero] <;> rfl) (by rfl) (by rfl) ?_
                    go_big_quiet_step (fail)
                    refine wpQuiet_nil ?_
                    refine wpV_q (by simp only [List.getElem?_toArray, List.getElem?_cons_succ, List.getElem?_cons_zero] <;> rfl) (by rfl) (by rfl) ?_
                    go_big_quiet_step (fail)
                    refine wpQuiet_nil ?_
                    refine wpV_q (by simp only [List.getElem?_toArray, List.getElem?_cons_succ, List.getElem?_cons_zero] <;> rfl) (by rfl) (by rfl) ?_
                    go_big_quiet_step (fail)
                    refine wpQuiet_nil ?_
                    refine wpV_e (by simp only [List.getElem?_toArray, List.getElem?_cons_succ, List.getElem?_cons_zero] <;> rfl) (by rfl) ?_
                    go_wp2_with fail
                    refine (CR.out _ _ _ (ST5.out.enter (rhrows g ds y []) (inC (at_ 6 rfl) (inC (at_ 7 rfl) (inC (at_ 8 rfl) (inC (at_ 9 rfl) inN)))))).mono ?_
                    intro e wc1 hst
                    obtain ⟨y', rv, rfl, hst2⟩ := hst
                    have ST6 := Lib.hid (show Sta Wb (fun _ => True) dp d' [⟨q1, Rh.arr g ds y, 137⟩, ⟨q0, h'.arr x', 112⟩] [⟨146, 3, rv, o'.length, routs o'⟩, ⟨91, 8, ov, o'.length, houts o'⟩] (rhrows g' d' y' (hrows h' x' (hrows h x (rhrows g ds y [])))) wc1 from ST5.out.leave (inC (at_ 6 rfl) (inC (at_ 7 rfl) (inC (at_ 8 rfl) (inC (at_ 9 rfl) inN)))) hst2)
                    clear hst2 ST5
                    go_wp2_with fail
                    refine ⟨⟨⟨wc1, HB.out _ ST6.out.fr⟩, rfl⟩, ?_⟩
                    refine wpV_q (by simp only [List.getElem?_toArray, List.getElem?_cons_succ, List.getElem?_cons_zero] <;> rfl) (by rfl) (by rfl) ?_
                    go_big_quiet_step (fail)
                    refine wpQuiet_nil ?_
                    refine wpV_q (by simp only [List.getElem?_toArray, List.getElem?_cons_succ, List.getElem?_cons_zero] <;> rfl) (by rfl) (by rfl) ?_
                    go_big_quiet_step (fail)
                    refine wpQuiet_nil ?_
                    refine wpV_q (by simp only [List.getElem?_toArray, List.getElem?_cons_succ, List.getElem?_cons_zero] <;> rfl) (by rfl) (by rfl) ?_
                    go_big_quiet_step (fail)
                    refine wpQuiet_nil ?_
                    refine wpV_e (by simp only [List.getElem?_toArray, List.getElem?_cons_succ, List.getElem?_cons_zero] <;> rfl) (by rfl) ?_
                    refine wpList_storeW (vs := g'.arr d' y') (ST6.out.blkAt 0 rfl) (by rfl) 137 _ _ (by rfl) (by rfl) (by rfl) rfl Try.infoRefHand (by rw [← Array.all_toList]; rfl) ?_
                    intro wd1 f_ b_
                    have ST7 := Lib.hid (show Sta Wb (fun _ => True) dp d' [⟨q1, g'.arr d' y', 137⟩, ⟨q0, h'.arr x', 112⟩] [⟨146, 3, rv, o'.length, routs o'⟩, ⟨91, 8, ov, o'.length, houts o'⟩] (rhrows g' d' y' (hrows h' x' (hrows h x (rhrows g ds y [])))) wd1 from ST6.out.store 0 rfl f_ b_)
                    clear ST6 f_ b_
                    refine wpList_nil ?_
                    refine ⟨⟨⟨wd1, HB.out _ ST7.out.fr⟩, rfl⟩, ?_⟩
                    simp only [Act.put]
                    refine wpV_e (by simp only [List.getElem?_toArray, List.getElem?_cons_succ, List.getElem?_cons_zero] <;> rfl) (by rfl) ?_
                    go_wp2_with fail
                    refine ⟨⟨⟨wd1, HB.out _ ST7.out.fr⟩, rfl⟩, ?_⟩
                    refine wpV_done ?_
                    clear zc this
                    obtain ⟨ra, rc, rfl, hst⟩ := ST7.out.asRow 0 rfl
                    obtain ⟨oa, oc, rfl, hst⟩ := hst.asRow 0 rfl
                    have HX := Lib.hid hst
                    clear hst ST7
                    go_wp2_with fail
                    go_meet
                    exact ⟨h', x', g', y', d', o', oa, oc, ra, rc, rfl, rfl, HI'.out, HF.out, HX.out.less (List.Sublist.refl _) (inC (at_ 0 rfl) (inC (at_ 1 rfl) (inC (at_ 6 rfl) (inC (at_ 7 rfl) (inC (at_ 8 rfl) (inC (at_ 2 rfl) (inC (at_ 3 rfl) (inC (at_ 4 rfl) (inC (at_ 5 rfl) inN)))))))))⟩
        case rest =>
          unfold HpEnd at hcut
          obtain ⟨h', x', g', y', ds', o, oa, oc, ra, rc, rfl, rfl, hi', ho, hst⟩ := hcut
          have HI' := Lib.hid hi'
          have HO := Lib.hid ho
          generalize wc = we at hst ⊢
          have ST2 := Lib.hid hst
          clear hi' hst ST1 HI HB hbd
          have m00 := (ST2.out.rowAt 0 rfl).le
          have m01 := (ST2.out.rowAt 0 rfl).max
          have m02 := (ST2.out.rowAt 1 rfl).le
          have m03 := (ST2.out.rowAt 1 rfl).max
          have m04 := (ST2.out.rowAt 2 rfl).le
          have m05 := (ST2.out.rowAt 2 rfl).max
          have m06 := (ST2.out.rowAt 3 rfl).le
          have m07 := (ST2.out.rowAt 3 rfl).max
          have m08 := (ST2.out.rowAt 4 rfl).le
          have m09 := (ST2.out.rowAt 4 rfl).max
          have m10 := (ST2.out.rowAt 5 rfl).le
          have m11 := (ST2.out.rowAt 5 rfl).max
          have m12 := (ST2.out.rowAt 6 rfl).le
          have m13 := (ST2.out.rowAt 6 rfl).max
          have m14 := (ST2.out.rowAt 7 rfl).le
          have m15 := (ST2.out.rowAt 7 rfl).max
          have m16 := (ST2.out.rowAt 8 rfl).le
          have m17 := (ST2.out.rowAt 8 rfl).max
          have CS := Lib.hid (fun w (f : Gr we w) => viewSane_any h'.v x'.x w ((ST2.out.gr f).vw (v := h'.v) (y := x'.x) (at_ 2 rfl) (at_ 3 rfl) HI'.out.good.v))
          rw [(vSane_iff h'.v).2 HI'.out.sane] at CS
          have CL := Lib.hid (fun w (f : Gr we w) => leftV_any dp ds' w (ST2.out.gr f).dr HDD.out)
          go_upto_region 30 with fail
          go_cut [176] from 157 to 175 (fun c wx => c = .bool false ∧ Gr we wx)
          case first =>
            haveI : Nonempty (WC (Gr we)) := ⟨⟨we, Fr.refl _ _⟩⟩
            have z0 : ∀ z2 : WC (Gr we), z2.val.cell? ⟨q0, 0, none⟩ = some (.int .i64 h'.v.self) := fun z2 => z2.ok.cell (ST2.out.cell 1 0 rfl rfl) (fun h => h)
            have z1 : ∀ z2 : WC (Gr we), z2.val.cell? ⟨q0, 1, none⟩ = some (.slice x'.x.aa h'.v.act.length x'.x.ac) := fun z2 => z2.ok.cell (ST2.out.cell 1 1 rfl rfl) (fun h => h)
            have z2 : ∀ z2 : WC (Gr we), z2.val.cell? ⟨q0, 2, none⟩ = some (.int .i64 h'.v.am) := fun z2 => z2.ok.cell (ST2.out.cell 1 2 rfl rfl) (fun h => h)
            have z3 : ∀ z2 : WC (Gr we), z2.val.cell? ⟨q0, 3, none⟩ = some (.slice x'.x.pa h'.v.pas.length x'.x.pc) := fun z2 => z2.ok.cell (ST2.out.cell 1 3 rfl rfl) (fun h => h)
            have z4 : ∀ z2 : WC (Gr we), z2.val.cell? ⟨q0, 4, none⟩ = some (.int .i64 h'.v.pm) := fun z2 => z2.ok.cell (ST2.out.cell 1 4 rfl rfl) (fun h => h)
            have z5 : ∀ z2 : WC (Gr we), z2.val.cell? ⟨q1, 5, none⟩ = some (.slice y'.da ds'.length y'.dc) := fun z2 => z2.ok.cell (ST2.out.cell 0 5 rfl rfl) (fun h => h)
            refine wp_region_plan [8, 13] (Plan.seq [0, 1, 2, 3, 4, 5, 6, 7, 8, 9, 10, 11, 12, 13, 14, 15, 16, 17, 18, 19] .done) (fun w' => ∃ z' : WC (Gr we), w' = z'.val) (by kernel_rfl) (by kernel_rfl) (fun c a w d v h => by cases d <;> exact h) (fun c a w d v h => by cases d <;> exact h) ⟨⟨we.drew, (Fr.refl _ _).drew⟩, rfl⟩ ?_
            simp only [Plan.seq, List.foldr]
            refine wpV_q (by simp only [List.getElem?_toArray, List.getElem?_cons_zero] <;> rfl) (by rfl) (by rfl) ?_
            go_big_quiet_step (fail)
            refine wpQuiet_nil ?_
            repeat (refine wpV_q (by simp only [List.getElem?_toArray, List.getElem?_cons_succ, List.getElem?_cons_zero] <;> rfl) (by rfl) (by rfl) ?_; go_big_quiet_step (fail); refine wpQuiet_nil ?_)
            refine wpV_e (by simp only [List.getElem?_toArray, List.getElem?_cons_succ, List.getElem?_cons_zero] <;> rfl) (by rfl) ?_
            go_wp2_with fail
            refine (CS.out _ (show Gr we we.drew from (Fr.refl _ _).drew)).mono ?_
            rintro e w2 ⟨rfl, f2⟩
            have Fw2 : Gr we w2 := Gr.trans (show Gr we we.drew from (Fr.refl _ _).drew) f2
            go_wp2_with fail
            refine ⟨⟨⟨w2, Fw2⟩, rfl⟩, ?_⟩
            repeat (refine wpV_q (by simp only [List.getElem?_toArray, List.getElem?_cons_succ, List.getElem?_cons_zero] <;> rfl) (by rfl) (by rfl) ?_; go_big_quiet_step (fail); refine wpQuiet_nil ?_)
            refine wpV_e (by simp only [List.getElem?_toArray, List.getElem?_cons_succ, List.getElem?_cons_zero] <;> rfl) (by rfl) ?_
            go_wp2_with fail
            refine (CL.out _ Fw2).mono ?_
            rintro e w3 ⟨rfl, f3⟩
            have Fw3 : Gr we w3 := f3 ▸ Fw2
            go_wp2_with fail
            refine ⟨⟨⟨w3, Fw3⟩, rfl⟩, ?_⟩
            repeat (refine wpV_q (by simp only [List.getElem?_toArray, List.getElem?_cons_succ, List.getElem?_cons_zero] <;> rfl) (by rfl) (by rfl) ?_; go_big_quiet_step (fail); refine wpQuiet_nil ?_)
            clear f3 f2 Fw2
            refine wpV_done ?_
            have FZ := Lib.hid Fw3
            clear this z0 z1 z2 z3 z4 z5
            go_wp2_with fail
            go_meet
            exact ⟨rfl, FZ.out⟩
          case rest =>
            obtain ⟨rfl, g0⟩ := hcut
            generalize wc = wf at g0 ⊢
            have ST3 := Lib.hid (ST2.out.gr g0)
            clear g0 CS CL ST2
            go_upto_region 32 with fail
            go_wp2_with fail
            go_loopw [16] (fun jv wr => ∃ j : Nat, jv = .int .i64 j ∧ j ≤ o.length ∧ Gr wf wr) (fun jv _ => o.length - (intOf jv).toNat)
            case atStart => exact ⟨0, rfl, Nat.zero_le _, Fr.refl _ _⟩
            case round =>
              obtain ⟨j, rfl, hj, hgr⟩ := hrel
              have GJ := Lib.hid hgr
              clear hgr
              by_cases hjl : j < o.length
              · obtain ⟨bo, oo, rfl, ho8⟩ := SlA.elem (f := Ho.cells) (n := 8) (fun _ => rfl) (by decide) (ST3.out.rowAt 0 rfl) j hjl
                obtain ⟨br, ro, rfl, hr3⟩ := SlA.elem (f := Ho.rcells) (n := 3) (fun _ => rfl) (by decide) (ST3.out.rowAt 1 rfl) j hjl
                have hO8 := Lib.hid (fun (w : World) (f : Gr wr w) (t : Nat) (v : Value) (hv : (Ho.cells o[j])[t]? = some v) => show w.cell? ⟨bo, oo + j * 8 + t, none⟩ = some v from (Gr.trans GJ.out f).cell (ho8 t v hv) (fun h => h))
                have hR3 := Lib.hid (fun (w : World) (f : Gr wr w) (t : Nat) (v : Value) (hv : (Ho.rcells o[j])[t]? = some v) => show w.cell? ⟨br, ro + j * 3 + t, none⟩ = some v from (Gr.trans GJ.out f).cell (hr3 t v hv) (fun h => h))
                clear ho8 hr3
                generalize o[j] = z at hO8 hR3
                obtain ⟨wo, kd, hi⟩ := z
                have CM := Lib.hid (fun w => sameQ_any ⟨kd, 0, 0, hi, []⟩ none none 0 0 w (SlA.nil w) (SlA.nil w))
                go_upto_region 35 with fail
                haveI : Nonempty (WC (Gr wr)) := ⟨⟨wr, Fr.refl _ _⟩⟩
                have g0 : ∀ z2 : WC (Gr wr), z2.val.cell? ⟨bo, oo + j * 8, none⟩ = some (.int .i64 wo) := fun z2 => z2.ok.cell (hO8.out wr (Fr.refl _ _) 0 _ rfl) (fun h => h)
                have g1 : ∀ z2 : WC (Gr wr), z2.val.cell? ⟨bo, oo + j * 8 + 1, none⟩ = some (.int .i64 kd) := fun z2 => z2.ok.cell (hO8.out wr (Fr.refl _ _) 1 _ rfl) (fun h => h)
                have g2 : ∀ z2 : WC (Gr wr), z2.val.cell? ⟨bo, oo + j * 8 + 2, none⟩ = some (.int .i64 0) := fun z2 => z2.ok.cell (hO8.out wr (Fr.refl _ _) 2 _ rfl) (fun h => h)
                have g3 : ∀ z2 : WC (Gr wr), z2.val.cell? ⟨bo, oo + j * 8 + 3, none⟩ = some (.int .i64 0) := fun z2 => z2.ok.cell (hO8.out wr (Fr.refl _ _) 3 _ rfl) (fun h => h)
                have g4 : ∀ z2 : WC (Gr wr), z2.val.cell? ⟨bo, oo + j * 8 + 4, none⟩ = some (.bool hi) := fun z2 => z2.ok.cell (hO8.out wr (Fr.refl _ _) 4 _ rfl) (fun h => h)
                have g5 : ∀ z2 : WC (Gr wr), z2.val.cell? ⟨bo, oo + j * 8 + 5, none⟩ = some (.slice none 0 0) := fun z2 => z2.ok.cell (hO8.out wr (Fr.refl _ _) 5 _ rfl) (fun h => h)
                have g6 : ∀ z2 : WC (Gr wr), z2.val.cell? ⟨bo, oo + j * 8 + 6, none⟩ = some (.slice none 0 0) := fun z2 => z2.ok.cell (hO8.out wr (Fr.refl _ _) 6 _ rfl) (fun h => h)
                have g7 : ∀ z2 : WC (Gr wr), z2.val.cell? ⟨bo, oo + j * 8 + 7, none⟩ = some (.slice none 0 0) := fun z2 => z2.ok.cell (hO8.out wr (Fr.refl _ _) 7 _ rfl) (fun h => h)
                have r0_ : ∀ z2 : WC (Gr wr), z2.val.cell? ⟨br, ro + j * 3, none⟩ = some (.int .i64 wo) := fun z2 => z2.ok.cell (hR3.out wr (Fr.refl _ _) 0 _ rfl) (fun h => h)
                have r1_ : ∀ z2 : WC (Gr wr), z2.val.cell? ⟨br, ro + j * 3 + 1, none⟩ = some (.int .i64 kd) := fun z2 => z2.ok.cell (hR3.out wr (Fr.refl _ _) 1 _ rfl) (fun h => h)
                have r2_ : ∀ z2 : WC (Gr wr), z2.val.cell? ⟨br, ro + j * 3 + 2, none⟩ = some (.bool hi) := fun z2 => z2.ok.cell (hR3.out wr (Fr.refl _ _) 2 _ rfl) (fun h => h)
                refine wp_region_plan [28] (Plan.seq [0, 1, 2, 3, 4, 5, 6, 7, 8, 9, 10, 11, 12, 13, 14, 15, 16, 17, 18, 19, 20, 21, 22, 23, 24, 25, 26, 27, 28, 29, 30] .done) (fun w' => ∃ z' : WC (Gr wr), w' = z'.val) (by kernel_rfl) (by kernel_rfl) (fun c a w d v h => by cases d <;> exact h) (fun c a w d v h => by cases d <;> exact h) ⟨⟨wr.drew, (Fr.refl _ _).drew⟩, rfl⟩ ?_
                simp only [Plan.seq, List.foldr]
                refine wpV_q (by simp only [List.getElem?_toArray, List.getElem?_cons_zero] <;> rfl) (by rfl) (by rfl) ?_
                go_big_quiet_step (fail)
                refine wpQuiet_nil ?_
                repeat (refine wpV_q (by simp only [List.getElem?_toArray, List.getElem?_cons_succ, List.getElem?_cons_zero] <;> rfl) (by rfl) (by rfl) ?_; go_big_quiet_step (fail); refine wpQuiet_nil ?_)
                refine wpV_e (by simp only [List.getElem?_toArray, List.getElem?_cons_succ, List.getElem?_cons_zero] <;> rfl) (by rfl) ?_
                go_wp2_with fail
                refine (CM.out _).mono ?_
                rintro e w2 ⟨rfl, f2⟩
                have Fw2 : Gr wr w2 := Gr.trans (show Gr wr wr.drew from (Fr.refl _ _).drew) f2
                go_wp2_with fail
                refine ⟨⟨⟨w2, Fw2⟩, rfl⟩, ?_⟩
                repeat (refine wpV_q (by simp only [List.getElem?_toArray, List.getElem?_cons_succ, List.getElem?_cons_zero] <;> rfl) (by rfl) (by rfl) ?_; go_big_quiet_step (fail); refine wpQuiet_nil ?_)
                clear f2
                refine wpV_done ?_
                have FZ := Lib.hid Fw2
                clear this g0 g1 g2 g3 g4 g5 g6 g7 r0_ r1_ r2_
                go_wp2_with fail
                go_roundw
                case rel => exact ⟨j + 1, by go_num, hjl, Gr.trans GJ.out FZ.out⟩
                case measure => simp [intOf]; omega
              · have hjo : j = o.length := by omega
                subst hjo
                have ST4 := Lib.hid (ST3.out.gr GJ.out)
                clear ST3 GJ hj hjl m00 m01 m02 m03
                have YA := Lib.hid (fun w (f : Gr wr w) => setAll_any x'.x.aa x'.x.ac h'.v.act h'.v.am w ((ST4.out.gr f).rowAt 2 rfl) HI'.out.good.v.act)
                have YP := Lib.hid (fun w (f : Gr wr w) => setAll_any x'.x.pa x'.x.pc h'.v.pas h'.v.pm w ((ST4.out.gr f).rowAt 3 rfl) HI'.out.good.v.pas)
                have YK := Lib.hid (fun w (f : Gr wr w) => setAll_any x'.ka x'.kc h'.asked 64 w ((ST4.out.gr f).rowAt 4 rfl) HI'.out.good.asked)
                have HOK := Lib.hid (HI'.out.ok ST4.out.dr.range)
                have ZA := Lib.hid (fun w (f : Gr wr w) => refSorted_sl y'.y.aa y'.y.ac g'.u.act h'.v.act w ((ST4.out.gr f).rowAt 5 rfl) HI'.out.like.act HI'.out.good.v.act.le (by have := HOK.out.act; omega))
                have ZP := Lib.hid (fun w (f : Gr wr w) => refSorted_sl y'.y.pa y'.y.pc g'.u.pas h'.v.pas w ((ST4.out.gr f).rowAt 6 rfl) HI'.out.like.pas HI'.out.good.v.pas.le (by have := HOK.out.pas; omega))
                have ZK := Lib.hid (fun w (f : Gr wr w) => refSorted_sl y'.ka y'.kc g'.asked h'.asked w ((ST4.out.gr f).rowAt 8 rfl) HI'.out.asked HI'.out.good.asked.le (by have := HOK.out.asked; omega))
                go_upto_region 37 with fail
                go_cut [245] from 214 to 244 (fun c wx => c = .bool false ∧ Gr wr wx)
                case first =>
                  haveI : Nonempty (WC (Gr wr)) := ⟨⟨wr, Fr.refl _ _⟩⟩
                  have z1 : ∀ z2 : WC (Gr wr), z2.val.cell? ⟨q0, 1, none⟩ = some (.slice x'.x.aa h'.v.act.length x'.x.ac) := fun z2 => z2.ok.cell (ST4.out.cell 1 1 rfl rfl) (fun h => h)
                  have z2 : ∀ z2 : WC (Gr wr), z2.val.cell? ⟨q0, 2, none⟩ = some (.int .i64 h'.v.am) := fun z2 => z2.ok.cell (ST4.out.cell 1 2 rfl rfl) (fun h => h)
                  have z3 : ∀ z2 : WC (Gr wr), z2.val.cell? ⟨q0, 3, none⟩ = some (.slice x'.x.pa h'.v.pas.length x'.x.pc) := fun z2 => z2.ok.cell (ST4.out.cell 1 3 rfl rfl) (fun h => h)
                  have z4 : ∀ z2 : WC (Gr wr), z2.val.cell? ⟨q0, 4, none⟩ = some (.int .i64 h'.v.pm) := fun z2 => z2.ok.cell (ST4.out.cell 1 4 rfl rfl) (fun h => h)
                  have z5 : ∀ z2 : WC (Gr wr), z2.val.cell? ⟨q0, 5, none⟩ = some (.slice x'.ka h'.asked.length x'.kc) := fun z2 => z2.ok.cell (ST4.out.cell 1 5 rfl rfl) (fun h => h)
                  have z6 : ∀ z2 : WC (Gr wr), z2.val.cell? ⟨q0, 6, none⟩ = some (.int .i64 64) := fun z2 => z2.ok.cell (ST4.out.cell 1 6 rfl rfl) (fun h => h)
                  have x1 : ∀ z2 : WC (Gr wr), z2.val.cell? ⟨q1, 1, none⟩ = some (.slice y'.y.aa g'.u.act.length y'.y.ac) := fun z2 => z2.ok.cell (ST4.out.cell 0 1 rfl rfl) (fun h => h)
                  have x2 : ∀ z2 : WC (Gr wr), z2.val.cell? ⟨q1, 2, none⟩ = some (.slice y'.y.pa g'.u.pas.length y'.y.pc) := fun z2 => z2.ok.cell (ST4.out.cell 0 2 rfl rfl) (fun h => h)
                  have x6 : ∀ z2 : WC (Gr wr), z2.val.cell? ⟨q1, 6, none⟩ = some (.slice y'.ka g'.asked.length y'.kc) := fun z2 => z2.ok.cell (ST4.out.cell 0 6 rfl rfl) (fun h => h)
                  refine wp_region_plan [3, 7, 8, 14, 18, 19, 25, 28, 29] (Plan.seq [0, 1, 2, 3, 4, 5, 6, 7, 8, 9, 10, 11, 12, 13, 14, 15, 16, 17, 18, 19, 20, 21, 22, 23, 24, 25, 26, 27, 28, 29, 30, 31] .done) (fun w' => ∃ z' : WC (Gr wr), w' = z'.val) (by kernel_rfl) (by kernel_rfl) (fun c a w d v h => by cases d <;> exact h) (fun c a w d v h => by cases d <;> exact h) ⟨⟨wr.drew, (Fr.refl _ _).drew⟩, rfl⟩ ?_
                  simp only [Plan.seq, List.foldr]
                  refine wpV_q (by simp only [List.getElem?_toArray, List.getElem?_cons_zero] <;> rfl) (by rfl) (by rfl) ?_
                  go_big_quiet_step (fail)
                  refine wpQuiet_nil ?_
                  repeat (refine wpV_q (by simp only [List.getElem?_toArray, List.getElem?_cons_succ, List.getElem?_cons_zero] <;> rfl) (by rfl) (by rfl) ?_; go_big_quiet_step (fail); refine wpQuiet_nil ?_)
                  refine wpV_e (by simp only [List.getElem?_toArray, List.getElem?_cons_succ, List.getElem?_cons_zero] <;> rfl) (by rfl) ?_
                  go_wp2_with fail
                  refine (YA.out _ (show Gr wr wr.drew from (Fr.refl _ _).drew)).mono ?_
                  rintro e w20 ⟨vv, rfl, ho, hb⟩
                  obtain ⟨a20, c20, rfl, h20, -⟩ := SlA.of_own ho
                  have F20 : Gr wr w20 := Gr.trans (show Gr wr wr.drew from (Fr.refl _ _).drew) (Gr.of_below hb)
                  clear ho hb
                  go_wp2_with fail
                  refine ⟨⟨⟨w20, F20⟩, rfl⟩, ?_⟩
                  repeat (refine wpV_q (by simp only [List.getElem?_toArray, List.getElem?_cons_succ, List.getElem?_cons_zero] <;> rfl) (by rfl) (by rfl) ?_; go_big_quiet_step (fail); refine wpQuiet_nil ?_)
                  refine wpV_e (by simp only [List.getElem?_toArray, List.getElem?_cons_succ, List.getElem?_cons_zero] <;> rfl) (by rfl) ?_
                  go_wp2_with fail
                  refine (ZA.out _ F20).mono ?_
                  rintro e w21 ⟨a21, c21, rfl, h21, f_⟩
                  have F21 : Gr wr w21 := Gr.trans F20 f_
                  have h22 := h20.keep f_ (fun _ _ h => h)
                  clear f_ h20
                  go_wp2_with fail
                  refine ⟨⟨⟨w21, F21⟩, rfl⟩, ?_⟩
                  refine wpV_e (by simp only [List.getElem?_toArray, List.getElem?_cons_succ, List.getElem?_cons_zero] <;> rfl) (by rfl) ?_
                  go_wp2_with fail
                  refine (refSame_any a20 c20 h'.v.act a21 c21 h'.v.act _ h22 h21).mono ?_
                  rintro e w22 ⟨rfl, q20, hq20⟩
                  rw [(same_iff h'.v.act h'.v.act).2 rfl]
                  have F22 : Gr wr w22 := by rw [hq20]; exact F21.drewN q20
                  clear hq20 h22 h21 F20 F21
                  go_wp2_with fail
                  refine ⟨⟨⟨w22, F22⟩, rfl⟩, ?_⟩
                  repeat (refine wpV_q (by simp only [List.getElem?_toArray, List.getElem?_cons_succ, List.getElem?_cons_zero] <;> rfl) (by rfl) (by rfl) ?_; go_big_quiet_step (fail); refine wpQuiet_nil ?_)
                  refine wpV_e (by simp only [List.getElem?_toArray, List.getElem?_cons_succ, List.getElem?_cons_zero] <;> rfl) (by rfl) ?_
                  go_wp2_with fail
                  refine (YP.out _ F22).mono ?_
                  rintro e w30 ⟨vv, rfl, ho, hb⟩
                  obtain ⟨a30, c30, rfl, h30, -⟩ := SlA.of_own ho
                  have F30 : Gr wr w30 := Gr.trans F22 (Gr.of_below hb)
                  clear ho hb
                  go_wp2_with fail
                  refine ⟨⟨⟨w30, F30⟩, rfl⟩, ?_⟩
                  repeat (refine wpV_q (by simp only [List.getElem?_toArray, List.getElem?_cons_succ, List.getElem?_cons_zero] <;> rfl) (by rfl) (by rfl) ?_; go_big_quiet_step (fail); refine wpQuiet_nil ?_)
                  refine wpV_e (by simp only [List.getElem?_toArray, List.getElem?_cons_succ, List.getElem?_cons_zero] <;> rfl) (by rfl) ?_
                  go_wp2_with fail
                  refine (ZP.out _ F30).mono ?_
                  rintro e w31 ⟨a31, c31, rfl, h31, f_⟩
                  have F31 : Gr wr w31 := Gr.trans F30 f_
                  have h32 := h30.keep f_ (fun _ _ h => h)
                  clear f_ h30
                  go_wp2_with fail
                  refine ⟨⟨⟨w31, F31⟩, rfl⟩, ?_⟩
                  refine wpV_e (by simp only [List.getElem?_toArray, List.getElem?_cons_succ, List.getElem?_cons_zero] <;> rfl) (by rfl) ?_
                  go_wp2_with fail
                  refine (refSame_any a30 c30 h'.v.pas a31 c31 h'.v.pas _ h32 h31).mono ?_
                  rintro e w32 ⟨rfl, q20, hq20⟩
                  rw [(same_iff h'.v.pas h'.v.pas).2 rfl]
                  have F32 : Gr wr w32 := by rw [hq20]; exact F31.drewN q20
                  clear hq20 h32 h31 F30 F31
                  go_wp2_with fail
                  refine ⟨⟨⟨w32, F32⟩, rfl⟩, ?_⟩
                  repeat (refine wpV_q (by simp only [List.getElem?_toArray, List.getElem?_cons_succ, List.getElem?_cons_zero] <;> rfl) (by rfl) (by rfl) ?_; go_big_quiet_step (fail); refine wpQuiet_nil ?_)
                  refine wpV_e (by simp only [List.getElem?_toArray, List.getElem?_cons_succ, List.getElem?_cons_zero] <;> rfl) (by rfl) ?_
                  go_wp2_with fail
                  refine (YK.out _ F32).mono ?_
                  rintro e w40 ⟨vv, rfl, ho, hb⟩
                  obtain ⟨a40, c40, rfl, h40, -⟩ := SlA.of_own ho
                  have F40 : Gr wr w40 := Gr.trans F32 (Gr.of_below hb)
                  clear ho hb
                  go_wp2_with fail
                  refine ⟨⟨⟨w40, F40⟩, rfl⟩, ?_⟩
                  repeat (refine wpV_q (by simp only [List.getElem?_toArray, List.getElem?_cons_succ, List.getElem?_cons_zero] <;> rfl) (by rfl) (by rfl) ?_; go_big_quiet_step (fail); refine wpQuiet_nil ?_)
                  refine wpV_e (by simp only [List.getElem?_toArray, List.getElem?_cons_succ, List.getElem?_cons_zero] <;> rfl) (by rfl) ?_
                  go_wp2_with fail
                  refine (ZK.out _ F40).mono ?_
                  rintro e w41 ⟨a41, c41, rfl, h41, f_⟩
                  have F41 : Gr wr w41 := Gr.trans F40 f_
                  have h42 := h40.keep f_ (fun _ _ h => h)
                  clear f_ h40
                  go_wp2_with fail
                  refine ⟨⟨⟨w41, F41⟩, rfl⟩, ?_⟩
                  refine wpV_e (by simp only [List.getElem?_toArray, List.getElem?_cons_succ, List.getElem?_cons_zero] <;> rfl) (by rfl) ?_
                  go_wp2_with fail
                  refine (refSame_any a40 c40 h'.asked a41 c41 h'.asked _ h42 h41).mono ?_
                  rintro e w42 ⟨rfl, q20, hq20⟩
                  rw [(same_iff h'.asked h'.asked).2 rfl]
                  have F42 : Gr wr w42 := by rw [hq20]; exact F41.drewN q20
                  clear hq20 h42 h41 F40 F41
                  go_wp2_with fail
                  refine ⟨⟨⟨w42, F42⟩, rfl⟩, ?_⟩
                  repeat (refine wpV_q (by simp only [List.getElem?_toArray, List.getElem?_cons_succ, List.getElem?_cons_zero] <;> rfl) (by rfl) (by rfl) ?_; go_big_quiet_step (fail); refine wpQuiet_nil ?_)
                  refine wpV_done ?_
                  have FZ := Lib.hid F42
                  clear this z1 z2 z3 z4 z5 z6 x1 x2 x6
                  go_wp2_with fail
                  go_meet
                  exact ⟨rfl, FZ.out⟩
                case rest =>
                  obtain ⟨rfl, g1⟩ := hcut
                  generalize wc = wg at g1 ⊢
                  have ST5 := Lib.hid (ST4.out.gr g1)
                  clear g1 ST4 YA YP YK ZA ZP ZK HOK m04 m05 m06 m07 m08 m09 m10 m11 m12 m13 m14 m15 m16 m17
                  go_wp2_with fail
                  go_roundw
                  case rel => exact ⟨k + 1, h', x', g', y', ds', by go_num, hlt, HI'.out, ST5.out.less (List.Sublist.refl _) (inC (at_ 2 rfl) (inC (at_ 3 rfl) (inC (at_ 4 rfl) (inC (at_ 5 rfl) (inC (at_ 6 rfl) (inC (at_ 7 rfl) (inC (at_ 8 rfl) inN)))))))⟩
                  case measure => simp [intOf]; omega
      · rw [decide_eq_false hlt]
        have GX := Lib.hid (show Gr W wr from Fr.trans FB.out ST1.out.fr (fun k hk => .inr (HPW.out k hk)))
        clear ST1 HI HL
        go_wp2_with fail
        go_ret
        exact ⟨rfl, GX.out⟩
end Go.Proofs.Ytdpnkikaciigoaa
