/-
  A view with nodes, and the document's (bellhoplaw12.made) (printed by gen_made.py).
-/
import Derived.Test.YtdpnkikaciigoaaVPLaw
import Derived.Test.YtdpnkikaciigoaaRegionW
namespace Go.Proofs.Ytdpnkikaciigoaa
open Go.RowKit Go.Proofs

theorem exec_bldW0 (ρ : Operand → Value) (w : World) (dst : Option Tmp) (ty : TypeId) (pos : String) (after : Array Edge) {x0 x3 x4 : Operand} {i0 i3 i4 : Int} (h0 : ρ x0 = .int .i64 i0) (h3 : ρ x3 = .int .i64 i3) (h4 : ρ x4 = .int .i64 i4) :
    (execOp ρ ⟨dst, .build 51 #[(0, x0), (3, x3), (4, x4)], ty, pos, after, none⟩).run Try.prog w = .ok (.value (.agg #[.int .i64 i0, .slice none 0 0, .slice none 0 0, .int .i64 i3, .int .i64 i4, .slice none 0 0])) w := by simp [go_sem, h0, h3, h4]
theorem wpList_bldW0 {ops : Array Oper} {rest : List Oper} {dst : Option Tmp} {ty : TypeId} {pos : String} {after : Array Edge} {A : Act} {w : World} {Q : Exit → Act → World → Prop} {x0 x3 x4 : Operand} {i0 i3 i4 : Int} (h0 : A.eval x0 = .int .i64 i0) (h3 : A.eval x3 = .int .i64 i3) (h4 : A.eval x4 = .int .i64 i4)
    (h : wpList Try.prog ops Q rest (A.put dst (.agg #[.int .i64 i0, .slice none 0 0, .slice none 0 0, .int .i64 i3, .int .i64 i4, .slice none 0 0])) w) :
    wpList Try.prog ops Q (⟨dst, .build 51 #[(0, x0), (3, x3), (4, x4)], ty, pos, after, none⟩ :: rest) A w := by
  refine wpList_plain rfl fun K hK => ?_
  unfold Oper.wp
  rw [exec_bldW0 A.eval w dst ty pos after h0 h3 h4]
  exact hK _ _ h

/-- the state while nodes are added -/
abbrev mdS (B : Nat) : Nat → Prop := fun k => k = B ∨ k = B + 1
structure MdSt (W : World) (B q m : Nat) (w : World) : Prop where
  st : ∃ v u, VpSt W q m (.pointer none) w v u [] ∧ v.self = 9 ∧ v.am = 5 ∧ v.pm = 6 ∧ ∃ y z da dc, VpW W q m (.pointer none) w v y u z [] [] da dc ∧ VwApart (mdS B) v y ∧ VwApart (mdS B) u z
def MadeEnd (W : World) (ds : List Int) (da : Option Addr) (dc : Nat) (e : Ending) (w' : World) : Prop :=
  ∃ v y u z, e = .returned (.tuple #[.agg (v.arr y), .agg (rwArr u z ds da dc)]) ∧ VwAt w' v y ∧ RwAt w' u z ds da dc ∧ Like v u ∧ v.Good ∧ v.Sane ∧ v.self = 9 ∧ v.am = 5 ∧ v.pm = 6 ∧ Gr W w'
theorem pnone_no (k : Nat) : ¬ pblk (.pointer none) k := fun h => by unfold pblk at h; cases h
theorem vJoin_self (v : Vw) (n : Int) : (vJoin v n).self = v.self ∧ (vJoin v n).am = v.am ∧ (vJoin v n).pm = v.pm := by unfold vJoin; split <;> exact ⟨rfl, rfl, rfl⟩
theorem vKnow_self (v : Vw) (n : Int) (ds : List Int) : (vKnow v n ds).1.self = v.self ∧ (vKnow v n ds).1.am = v.am ∧ (vKnow v n ds).1.pm = v.pm := by unfold vKnow; split <;> exact ⟨rfl, rfl, rfl⟩
theorem like_len2 {v u : Vw} (h : Like v u) (g : v.Good) : u.act.length ≤ 100 ∧ u.pas.length ≤ 100 ∧ 0 ≤ u.pm := by
  have := h.act.length_eq
  have := h.pas.length_eq
  have := g.act.len
  have := g.pas.len
  have := g.pas.least
  have := h.pm
  omega
/-- a node of a number: its last three bits, and some more -/
theorem and7_bound (x : Int) : ∃ v : Int, bits .and .i64 x 7 = v ∧ 0 ≤ v ∧ v ≤ 7 := ⟨_, rfl, (and7_range x).1, (and7_range x).2⟩

set_option maxHeartbeats 16000000 in
set_option maxRecDepth 100000 in
theorem made_any (a0 : Option Addr) (c0 : Nat) (la : List Int) (a1 : Option Addr) (c1 : Nat) (lp : List Int) (da : Option Addr) (dc : Nat) (ds : List Int) (W : World) (h0 : SlA W a0 la.length c0 (ints la)) (h1 : SlA W a1 lp.length c1 (ints lp)) (hd : SlA W da ds.length dc (ds.map (Value.int .u32))) :
    Calls Try.prog 41 #[.slice a0 la.length c0, .slice a1 lp.length c1, .slice da ds.length dc] W (MadeEnd W ds da dc) := by
  obtain ⟨iz, hz1, hz2, hzs⟩ := info_pair Try.zeroView
  obtain ⟨ir, hr1, hr2, hrs⟩ := info_pair Try.zeroRefView
  obtain ⟨w0, hw0⟩ : ∃ w0, w0 = (W.alloc (.cells viewZ 29)).alloc (.cells rwZ 51) := ⟨_, rfl⟩
  have f0 : Gr W w0 := by rw [hw0]; exact ((Fr.refl _ _).alloc _).alloc _
  have A0 := Lib.hid (show w0.heap[W.heap.size]? = some (.cells viewZ 29 (0, 0)) by rw [hw0, heap_alloc_if, if_neg (by simp), heap_alloc_if, if_pos rfl])
  have B0 := Lib.hid (show w0.heap[W.heap.size + 1]? = some (.cells rwZ 51 (0, 0)) by rw [hw0, heap_alloc_if, if_pos (by simp)])
  have s0 : W.heap.size + 2 ≤ w0.heap.size := by rw [hw0]; simp
  have F0 := Lib.hid f0
  have HW := Lib.hid hw0
  have HA := Lib.hid (h0.keep f0 (fun _ _ h => h))
  have HP := Lib.hid (h1.keep f0 (fun _ _ h => h))
  have HD := Lib.hid (hd.keep f0 (fun _ _ h => h))
  have e1 := h0.le
  have e2 := h0.max
  have e3 := h1.le
  have e4 := h1.max
  have e5 := hd.le
  have e6 := hd.max
  have CN := Lib.hid (viewNew_any 9 5 6 w0)
  rw [vwNew_id 9 5 6 (by omega) (by omega)] at CN
  obtain ⟨n1, hn1⟩ : ∃ n, n = min la.length 5 := ⟨_, rfl⟩
  have HN1 := Lib.hid hn1
  obtain ⟨n2, hn2⟩ : ∃ n, n = min lp.length 6 := ⟨_, rfl⟩
  have HN2 := Lib.hid hn2
  clear hw0 f0 h0 h1 hd hn1 hn2
  go_enter Try.func41, Try.ntmps41
  go_upto_region 1 with fail
  rw [← HW.out]
  clear HW
  go_wp2_with fail
  refine CN.out.mono ?_
  rintro e w1 ⟨rfl, f1⟩
  have F1 := Lib.hid f1
  clear f1 CN
  go_wp2_with (refine wpList_fresh (vs := (⟨9, [], 5, [], 6⟩ : Vw).arr vwNone) hz1 hz2 Try.infoView (by rfl) (by rw [← Array.all_toList]; rfl) (by rfl) (by rfl) ?_)
  intro w2 f2 b2 l2
  obtain ⟨q, hq⟩ : ∃ q, q = w1.heap.size := ⟨_, rfl⟩
  rw [← hq] at b2 l2 ⊢
  have hWq : w0.heap.size ≤ q := by rw [hq]; exact F1.out.size
  have V2 := Lib.hid b2
  have F2 := Lib.hid (Gr.trans F1.out f2)
  clear f2 b2 F1 hq
  go_upto_region 2 with fail
  refine wp_region_lit ?_
  refine wpList_bldW0 (i0 := 9) (i3 := 5) (i4 := 6) (by rfl) (by rfl) (by rfl) ?_
  refine wpList_fresh (vs := rwArr ⟨9, [], 5, [], 6⟩ vwNone [] none 0) hr1 hr2 Try.infoRefView (by rfl) (by rw [← Array.all_toList]; rfl) (by rfl) (by rfl) ?_
  intro w3 f3 b3 l3
  obtain ⟨m, hm⟩ : ∃ m, m = w2.heap.size := ⟨_, rfl⟩
  rw [← hm] at b3 l3 ⊢
  have hCc : VpC w0 q m (.pointer none) := ⟨hWq, by omega, fun k h => absurd h (pnone_no k), by omega, pnone_no q, pnone_no m⟩
  have HCc := Lib.hid hCc
  have hqm : q < m := by omega
  have ST3 : Hid (MdSt w0 W.heap.size q m w3) := Lib.hid ⟨⟨⟨9, [], 5, [], 6⟩, ⟨9, [], 5, [], 6⟩, {
    w := ⟨vwNone, vwNone, none, 0, {
      bv := blk_keep f3 V2.out (fun h => h)
      bm := b3
      va := ⟨SlA.nil _, SlA.nil _, ⟨Good.nil (by simp only; omega) (by simp only; omega), Good.nil (by simp only; omega) (by simp only; omega)⟩⟩
      ra := ⟨SlA.nil _, SlA.nil _, SlA.nil _⟩
      av := VwApart.none _ _
      au := VwApart.none _ _
      dr := DrawV.nil _
      sep := VwSep.none
      da := .inl rfl
      gr := Gr.trans F2.out f3 }⟩
    like := ⟨rfl, List.Perm.refl _, List.Perm.refl _, rfl, rfl⟩
    good := ⟨Good.nil (by simp only; omega) (by simp only; omega), Good.nil (by simp only; omega) (by simp only; omega)⟩
    sane := ⟨by simp, by simp, by simp⟩ }, rfl, rfl, rfl, vwNone, vwNone, none, 0, {
      bv := blk_keep f3 V2.out (fun h => h)
      bm := b3
      va := ⟨SlA.nil _, SlA.nil _, ⟨Good.nil (by simp only; omega) (by simp only; omega), Good.nil (by simp only; omega) (by simp only; omega)⟩⟩
      ra := ⟨SlA.nil _, SlA.nil _, SlA.nil _⟩
      av := VwApart.none _ _
      au := VwApart.none _ _
      dr := DrawV.nil _
      sep := VwSep.none
      da := .inl rfl
      gr := Gr.trans F2.out f3 }, VwApart.none _ _, VwApart.none _ _⟩⟩
  clear hm f3 b3 l3 V2 F2 hz1 hz2 hzs hr1 hr2 hrs hCc l2
  go_upto_region 3 with fail
  go_wp2_with fail
  go_loopw [10] (fun iv wr => ∃ (k : Nat), iv = .int .i64 k ∧ k ≤ n1 ∧ MdSt w0 W.heap.size q m wr) (fun iv _ => n1 - (intOf iv).toNat)
  case atStart => exact ⟨0, rfl, Nat.zero_le _, ST3.out⟩
  case round =>
    clear ST3
    obtain ⟨k, rfl, hk, hst⟩ := hrel
    have ST := Lib.hid hst
    clear hst
    go_upto_region 4 with fail
    go_cut [21] from 14 to 21 (fun c wx => c = .bool (decide (k < n1)) ∧ wr = wx)
    case first =>
      by_cases h1 : (k : Int) < (la.length : Int)
      · by_cases h2 : (k : Int) < 5
        · have hd := Lib.hid (show decide (k < n1) = true by have := HN1.out; simp; omega)
          go_wp2_with fail
          go_meet
          exact ⟨by rw [hd.out], rfl⟩
        · have hd := Lib.hid (show decide (k < n1) = false by have := HN1.out; simp; omega)
          go_wp2_with fail
          go_meet
          exact ⟨by rw [hd.out], rfl⟩
      · have hd := Lib.hid (show decide (k < n1) = false by have := HN1.out; simp; omega)
        go_wp2_with fail
        go_meet
        exact ⟨by rw [hd.out], rfl⟩
    case rest =>
      obtain ⟨rfl, rfl⟩ := hcut
      by_cases hlt : k < n1
      · rw [decide_eq_true hlt]
        have hkl : k < la.length := by have := HN1.out; omega
        obtain ⟨v, u, hst, hv1, hv2, hv3, y, z, da', dc', hw, hap1, hap2⟩ := ST.out.st
        have AP1 := Lib.hid hap1
        have AP2 := Lib.hid hap2
        have hs9 := hw.gr.size
        clear hap1 hap2
        obtain ⟨b, o, rfl, hcW⟩ := HA.out.int k hkl
        have hbW : b < w0.heap.size := lt_of_cell hcW
        have hcc := hw.gr.cell hcW (fun h => h)
        obtain ⟨xv, hxv, hx0, hx7⟩ := and7_bound la[k]
        generalize la[k] = xx at *
        have G := Lib.hid hcc
        have HW := Lib.hid hw
        have HST := Lib.hid hst
        obtain ⟨hla, hlp, hpm⟩ := like_len2 hst.like hst.good
        clear hcW hcc hw hst ST
        have hk1 := like_join HST.out.like HST.out.good (1 + xv)
        have hk3 := vJoin_good HST.out.good (1 + xv)
        have hk4 := vJoin_sane HST.out.good HST.out.sane (1 + xv)
        have hk5 := vJoin_self v (1 + xv)
        have CV := Lib.hid (fun w (h : VpW w0 q m (.pointer none) w v y u z [] [] da' dc') => viewJoin_any v y (1 + xv) w h.va)
        unfold VEnd0 at CV
        have CR := Lib.hid (fun w (h : RwAt w u z [] da' dc') => refJoin_any u z (1 + xv) [] da' dc' w h hla hlp)
        unfold RwEnd at CR
        generalize vJoinOk v (1 + xv) = ok at *
        generalize rJoinNo u (1 + xv) = ok2 at *
        generalize vJoin v (1 + xv) = v' at *
        generalize rJoin u (1 + xv) = u' at *
        have HK := Lib.hid (And.intro hk1 (And.intro hk3 (And.intro hk4 (And.intro (hk5.1.trans hv1) (And.intro (hk5.2.1.trans hv2) (hk5.2.2.trans hv3))))))
        clear hk1 hk3 hk4 hk5 hla hlp hpm hv1 hv2 hv3 HST
        go_upto_region 6 with fail
        have HW1 := Lib.hid (HW.out.keep ((Fr.refl _ _).drew))
        haveI : Nonempty (WC (fun w => w.cell? ⟨b, o + k, none⟩ = some (.int .i64 xx))) := ⟨⟨wr, G.out⟩⟩
        have x0 : ∀ z' : WC (fun w => w.cell? ⟨b, o + k, none⟩ = some (.int .i64 xx)), z'.val.cell? ⟨b, o + k, none⟩ = some (.int .i64 xx) := fun z' => z'.ok
        clear HW
        refine wp_region_ord [0, 7, 11] [] [0, 1, 2, 3, 4, 5, 6, 7, 8, 9, 10, 11] (fun w' => ∃ z' : WC (fun w => w.cell? ⟨b, o + k, none⟩ = some (.int .i64 xx)), w' = z'.val) (by kernel_rfl) (by kernel_rfl) (fun c a w d v h => by cases d <;> exact h) (fun c a w d v h => by cases d <;> exact h) ⟨⟨wr.drew, G.out⟩, rfl⟩ ?_
        refine wpT_e (by simp only [List.getElem?_toArray, List.getElem?_cons_zero] <;> rfl) (by rfl) ?_
        refine wpList_load_mid (by rfl) 29 _ (by rfl) q 0 (by rfl) (Array.toList (v.arr y)) _ (blk_range HW1.out.bv) Try.underlying29 rfl Try.infoView ?_
        go_wp2_with fail
        refine ⟨⟨⟨wr.drew, G.out⟩, rfl⟩, ?_⟩
        try simp only [Act.put, List.setIfInBounds_toArray, List.set_cons_succ, List.set_cons_zero]
        repeat (refine wpT_q (by simp only [List.getElem?_toArray, List.getElem?_cons_succ, List.getElem?_cons_zero] <;> rfl) (by rfl) (by rfl) ?_; go_big_quiet_step (fail); refine wpQuiet_nil ?_)
        refine wpT_e (by simp only [List.getElem?_toArray, List.getElem?_cons_succ, List.getElem?_cons_zero] <;> rfl) (by rfl) ?_
        go_wp2_with fail
        refine (CV.out _ HW1.out).mono ?_
        rintro e w2 ⟨y', rfl, h2, f2, k2⟩
        have G2 := Lib.hid (f2.cell (show wr.drew.cell? ⟨b, o + k, none⟩ = some (.int .i64 xx) from G.out) (fun h => h))
        have HW2 := Lib.hid (HW1.out.keep f2)
        have H2 := Lib.hid h2
        have AV := Lib.hid (HW1.out.av.next k2 (vpS_lt HW1.out))
        have AV9 := Lib.hid (AP1.out.next k2 (fun k hk => by have := HW1.out.gr.size; omega))
        clear h2 f2 k2 HW1 CV
        go_wp2_with fail
        refine ⟨⟨⟨w2, G2.out⟩, rfl⟩, ?_⟩
        repeat (refine wpT_q (by simp only [List.getElem?_toArray, List.getElem?_cons_succ, List.getElem?_cons_zero] <;> rfl) (by rfl) (by rfl) ?_; go_big_quiet_step (fail); refine wpQuiet_nil ?_)
        refine wpT_e (by simp only [List.getElem?_toArray, List.getElem?_cons_succ, List.getElem?_cons_zero] <;> rfl) (by rfl) ?_
        go_wp2_with (refine wpList_storeW (vs := v'.arr y') HW2.out.bv (by rfl) 29 _ _ (by rfl) (by rfl) (by rfl) rfl Try.infoView (by rw [← Array.all_toList]; rfl) ?_)
        intro w3 f3 b3
        refine wpList_nil ?_
        have HW3 := Lib.hid (HW2.out.storeV HCc.out f3 b3 H2.out AV.out VwSep.none)
        have G3 := Lib.hid (f3.cell G2.out (fun hk => by simp only at hk; omega))
        clear f3 b3 HW2 H2 AV
        refine ⟨⟨⟨w3, G3.out⟩, rfl⟩, ?_⟩
        clear x0 this
        refine wpT_nil ?_
        go_upto_region 7 with fail
        haveI : Nonempty (WC (fun w => w.cell? ⟨b, o + k, none⟩ = some (.int .i64 xx))) := ⟨⟨w3, G3.out⟩⟩
        have x0 : ∀ z' : WC (fun w => w.cell? ⟨b, o + k, none⟩ = some (.int .i64 xx)), z'.val.cell? ⟨b, o + k, none⟩ = some (.int .i64 xx) := fun z' => z'.ok
        have HW4 := Lib.hid (HW3.out.keep ((Fr.refl _ _).drew))
        clear HW3
        refine wp_region_ord [0, 7, 11] [] [0, 1, 2, 3, 4, 5, 6, 7, 8, 9, 10, 11] (fun w' => ∃ z' : WC (fun w => w.cell? ⟨b, o + k, none⟩ = some (.int .i64 xx)), w' = z'.val) (by kernel_rfl) (by kernel_rfl) (fun c a w d v h => by cases d <;> exact h) (fun c a w d v h => by cases d <;> exact h) ⟨⟨w3.drew, G3.out⟩, rfl⟩ ?_
        refine wpT_e (by simp only [List.getElem?_toArray, List.getElem?_cons_zero] <;> rfl) (by rfl) ?_
        refine wpList_load_mid (by rfl) 51 _ (by rfl) m 0 (by rfl) (Array.toList (rwArr u z [] da' dc')) _ (blk_range HW4.out.bm) Try.underlying51 rfl Try.infoRefView ?_
        go_wp2_with fail
        refine ⟨⟨⟨w3.drew, G3.out⟩, rfl⟩, ?_⟩
        try simp only [Act.put, List.setIfInBounds_toArray, List.set_cons_succ, List.set_cons_zero]
        repeat (refine wpT_q (by simp only [List.getElem?_toArray, List.getElem?_cons_succ, List.getElem?_cons_zero] <;> rfl) (by rfl) (by rfl) ?_; go_big_quiet_step (fail); refine wpQuiet_nil ?_)
        refine wpT_e (by simp only [List.getElem?_toArray, List.getElem?_cons_succ, List.getElem?_cons_zero] <;> rfl) (by rfl) ?_
        go_wp2_with fail
        refine (CR.out _ HW4.out.ra).mono ?_
        rintro e w5 ⟨z', da2, dc2, rfl, h3, k3, hda3, f3⟩
        have HW5 := Lib.hid (HW4.out.keep f3)
        have H3 := Lib.hid h3
        have AU := Lib.hid (HW4.out.au.next k3 (vpS_lt HW4.out))
        have AU9 := Lib.hid (AP2.out.next k3 (fun k hk => by have := HW4.out.gr.size; omega))
        have G5 := Lib.hid (f3.cell (show w3.drew.cell? ⟨b, o + k, none⟩ = some (.int .i64 xx) from G3.out) (fun h => h))
        clear h3 k3 hda3 f3 HW4 CR
        go_wp2_with fail
        refine ⟨⟨⟨w5, G5.out⟩, rfl⟩, ?_⟩
        repeat (refine wpT_q (by simp only [List.getElem?_toArray, List.getElem?_cons_succ, List.getElem?_cons_zero] <;> rfl) (by rfl) (by rfl) ?_; go_big_quiet_step (fail); refine wpQuiet_nil ?_)
        refine wpT_e (by simp only [List.getElem?_toArray, List.getElem?_cons_succ, List.getElem?_cons_zero] <;> rfl) (by rfl) ?_
        go_wp2_with (refine wpList_storeW (vs := rwArr u' z' [] da2 dc2) HW5.out.bm (by rfl) 51 _ _ (by rfl) (by rfl) (by rfl) rfl Try.infoRefView (by rw [← Array.all_toList]; rfl) ?_)
        intro w6 f6 b6
        refine wpList_nil ?_
        have HN : Hid (MdSt w0 W.heap.size q m w6) := Lib.hid ⟨⟨v', u', ⟨⟨y', z', da2, dc2, HW5.out.storeM HCc.out f6 b6 H3.out AU.out (.inl rfl)⟩, HK.out.1, HK.out.2.1, HK.out.2.2.1⟩, HK.out.2.2.2.1, HK.out.2.2.2.2.1, HK.out.2.2.2.2.2, y', z', da2, dc2, HW5.out.storeM HCc.out f6 b6 H3.out AU.out (.inl rfl), AV9.out, AU9.out⟩⟩
        have G6 := Lib.hid (f6.cell G5.out (fun hk => by simp only at hk; omega))
        clear f6 b6 HW5 H3 AU
        refine ⟨⟨⟨w6, G6.out⟩, rfl⟩, ?_⟩
        clear x0 this
        refine wpT_nil ?_

        go_wp2_with fail
        go_roundw
        case rel => exact ⟨k + 1, by go_num, hlt, HN.out⟩
        case measure => simp [intOf]; omega
      · rw [decide_eq_false hlt]
        clear hlt hk
        have ST9 := Lib.hid ST.out
        clear ST
        go_upto_region 8 with fail
        go_wp2_with fail
        go_loopw [11] (fun iv wr => ∃ (k : Nat), iv = .int .i64 k ∧ k ≤ n2 ∧ MdSt w0 W.heap.size q m wr) (fun iv _ => n2 - (intOf iv).toNat)
        case atStart => exact ⟨0, rfl, Nat.zero_le _, ST9.out⟩
        case round =>
          clear ST9
          obtain ⟨k, rfl, hk, hst⟩ := hrel
          have ST := Lib.hid hst
          clear hst
          go_upto_region 9 with fail
          go_cut [53] from 46 to 53 (fun c wx => c = .bool (decide (k < n2)) ∧ wr = wx)
          case first =>
            by_cases h1 : (k : Int) < (lp.length : Int)
            · by_cases h2 : (k : Int) < 6
              · have hd := Lib.hid (show decide (k < n2) = true by have := HN2.out; simp; omega)
                go_wp2_with fail
                go_meet
                exact ⟨by rw [hd.out], rfl⟩
              · have hd := Lib.hid (show decide (k < n2) = false by have := HN2.out; simp; omega)
                go_wp2_with fail
                go_meet
                exact ⟨by rw [hd.out], rfl⟩
            · have hd := Lib.hid (show decide (k < n2) = false by have := HN2.out; simp; omega)
              go_wp2_with fail
              go_meet
              exact ⟨by rw [hd.out], rfl⟩
          case rest =>
            obtain ⟨rfl, rfl⟩ := hcut
            by_cases hlt : k < n2
            · rw [decide_eq_true hlt]
              have hkl : k < lp.length := by have := HN2.out; omega
              obtain ⟨v, u, hst, hv1, hv2, hv3, y, z, da', dc', hw, hap1, hap2⟩ := ST.out.st
              have AP1 := Lib.hid hap1
              have AP2 := Lib.hid hap2
              have hs9 := hw.gr.size
              clear hap1 hap2
              obtain ⟨b, o, rfl, hcW⟩ := HP.out.int k hkl
              have hbW : b < w0.heap.size := lt_of_cell hcW
              have hcc := hw.gr.cell hcW (fun h => h)
              obtain ⟨xv, hxv, hx0, hx7⟩ := and7_bound lp[k]
              generalize lp[k] = xx at *
              have G := Lib.hid hcc
              have HW := Lib.hid hw
              have HST := Lib.hid hst
              obtain ⟨hla, hlp, hpm⟩ := like_len2 hst.like hst.good
              clear hcW hcc hw hst ST
              obtain ⟨hk1, hk2⟩ := like_know HST.out.like HST.out.good (10 + xv) (ds := []) (by simp)
              have hk3 := vKnow_good HST.out.good (10 + xv) []
              have hk4 := vKnow_sane HST.out.good HST.out.sane (10 + xv) []
              have hk5 := vKnow_self v (10 + xv) []
              have CV := Lib.hid (fun w (h : VpW w0 q m (.pointer none) w v y u z [] [] da' dc') => viewKnow_any v y (10 + xv) (.pointer none) [] w h.va h.dr h.sep)
              unfold VEnd at CV
              have CR := Lib.hid (fun w (h : RwAt w u z [] da' dc') => refKnow_any u z (10 + xv) [] da' dc' w h hlp hpm (by simp))
              unfold RwEnd at CR
              rw [rKnow_nil] at CR
              generalize (vKnow v (10 + xv) []).2 = ds9 at *
              generalize (vKnow v (10 + xv) []).1 = v' at *
              generalize (rKnow u (10 + xv) []).1 = u' at *
              clear hk2
              have HK := Lib.hid (And.intro hk1 (And.intro hk3 (And.intro hk4 (And.intro (hk5.1.trans hv1) (And.intro (hk5.2.1.trans hv2) (hk5.2.2.trans hv3))))))
              clear hk1 hk3 hk4 hk5 hla hlp hpm hv1 hv2 hv3 HST
              go_upto_region 11 with fail
              have HW1 := Lib.hid (HW.out.keep ((Fr.refl _ _).drew))
              haveI : Nonempty (WC (fun w => w.cell? ⟨b, o + k, none⟩ = some (.int .i64 xx))) := ⟨⟨wr, G.out⟩⟩
              have x0 : ∀ z' : WC (fun w => w.cell? ⟨b, o + k, none⟩ = some (.int .i64 xx)), z'.val.cell? ⟨b, o + k, none⟩ = some (.int .i64 xx) := fun z' => z'.ok
              clear HW
              refine wp_region_lastO 8 [0, 7] [] [0, 1, 2, 3, 4, 5, 6, 7] (fun w' => ∃ z' : WC (fun w => w.cell? ⟨b, o + k, none⟩ = some (.int .i64 xx)), w' = z'.val) (by kernel_rfl) (by kernel_rfl) (fun c a w d v h => by cases d <;> exact h) (fun c a w d v h => by cases d <;> exact h) ⟨⟨wr.drew, G.out⟩, rfl⟩ ?_
              simp only [List.take]
              refine wpT_e (by simp only [List.getElem?_toArray, List.getElem?_cons_zero] <;> rfl) (by rfl) ?_
              refine wpList_load_mid (by rfl) 29 _ (by rfl) q 0 (by rfl) (Array.toList (v.arr y)) _ (blk_range HW1.out.bv) Try.underlying29 rfl Try.infoView ?_
              go_wp2_with fail
              refine ⟨⟨⟨wr.drew, G.out⟩, rfl⟩, ?_⟩
              try simp only [Act.put, List.setIfInBounds_toArray, List.set_cons_succ, List.set_cons_zero]
              repeat (refine wpT_q (by simp only [List.getElem?_toArray, List.getElem?_cons_succ, List.getElem?_cons_zero] <;> rfl) (by rfl) (by rfl) ?_; go_big_quiet_step (fail); refine wpQuiet_nil ?_)
              refine wpT_e (by simp only [List.getElem?_toArray, List.getElem?_cons_succ, List.getElem?_cons_zero] <;> rfl) (by rfl) ?_
              go_wp2_with fail
              refine (CV.out _ HW1.out).mono ?_
              rintro e w2 ⟨y', rfl, h2, d2, f2', k2⟩
              have f2 := gr_of_pnone f2'
              clear f2' d2
              have G2 := Lib.hid (f2.cell (show wr.drew.cell? ⟨b, o + k, none⟩ = some (.int .i64 xx) from G.out) (fun h => h))
              have HW2 := Lib.hid (HW1.out.keep f2)
              have H2 := Lib.hid h2
              have AV := Lib.hid (HW1.out.av.next k2 (vpS_lt HW1.out))
              have AV9 := Lib.hid (AP1.out.next k2 (fun k hk => by have := HW1.out.gr.size; omega))
              clear h2 f2 k2 HW1 CV
              go_wp2_with fail
              refine ⟨⟨⟨w2, G2.out⟩, rfl⟩, ?_⟩
              clear x0 this
              refine wpT_nil ?_
              simp only [lastQ, List.drop]
              go_wp2_with (refine wpList_storeW (vs := v'.arr y') HW2.out.bv (by rfl) 29 _ _ (by rfl) (by rfl) (by rfl) rfl Try.infoView (by rw [← Array.all_toList]; rfl) ?_)
              intro w3 f3 b3
              have HW3 := Lib.hid (HW2.out.storeV HCc.out f3 b3 H2.out AV.out VwSep.none)
              have G3 := Lib.hid (f3.cell G2.out (fun hk => by simp only at hk; omega))
              clear f3 b3 HW2 H2 AV
              go_upto_region 12 with fail
              haveI : Nonempty (WC (fun w => w.cell? ⟨b, o + k, none⟩ = some (.int .i64 xx))) := ⟨⟨w3, G3.out⟩⟩
              have x0 : ∀ z' : WC (fun w => w.cell? ⟨b, o + k, none⟩ = some (.int .i64 xx)), z'.val.cell? ⟨b, o + k, none⟩ = some (.int .i64 xx) := fun z' => z'.ok
              have HW4 := Lib.hid (HW3.out.keep ((Fr.refl _ _).drew))
              clear HW3
              refine wp_region_lastO 8 [0, 7] [] [0, 1, 2, 3, 4, 5, 6, 7] (fun w' => ∃ z' : WC (fun w => w.cell? ⟨b, o + k, none⟩ = some (.int .i64 xx)), w' = z'.val) (by kernel_rfl) (by kernel_rfl) (fun c a w d v h => by cases d <;> exact h) (fun c a w d v h => by cases d <;> exact h) ⟨⟨w3.drew, G3.out⟩, rfl⟩ ?_
              simp only [List.take]
              refine wpT_e (by simp only [List.getElem?_toArray, List.getElem?_cons_zero] <;> rfl) (by rfl) ?_
              refine wpList_load_mid (by rfl) 51 _ (by rfl) m 0 (by rfl) (Array.toList (rwArr u z [] da' dc')) _ (blk_range HW4.out.bm) Try.underlying51 rfl Try.infoRefView ?_
              go_wp2_with fail
              refine ⟨⟨⟨w3.drew, G3.out⟩, rfl⟩, ?_⟩
              try simp only [Act.put, List.setIfInBounds_toArray, List.set_cons_succ, List.set_cons_zero]
              repeat (refine wpT_q (by simp only [List.getElem?_toArray, List.getElem?_cons_succ, List.getElem?_cons_zero] <;> rfl) (by rfl) (by rfl) ?_; go_big_quiet_step (fail); refine wpQuiet_nil ?_)
              refine wpT_e (by simp only [List.getElem?_toArray, List.getElem?_cons_succ, List.getElem?_cons_zero] <;> rfl) (by rfl) ?_
              go_wp2_with fail
              refine (CR.out _ HW4.out.ra).mono ?_
              rintro e w5 ⟨z', da2, dc2, rfl, h3, k3, hda3, f3⟩
              have HW5 := Lib.hid (HW4.out.keep f3)
              have H3 := Lib.hid h3
              have AU := Lib.hid (HW4.out.au.next k3 (vpS_lt HW4.out))
              have AU9 := Lib.hid (AP2.out.next k3 (fun k hk => by have := HW4.out.gr.size; omega))
              have G5 := Lib.hid (f3.cell (show w3.drew.cell? ⟨b, o + k, none⟩ = some (.int .i64 xx) from G3.out) (fun h => h))
              clear h3 k3 hda3 f3 HW4 CR
              go_wp2_with fail
              refine ⟨⟨⟨w5, G5.out⟩, rfl⟩, ?_⟩
              clear x0 this
              refine wpT_nil ?_
              simp only [lastQ, List.drop]
              go_wp2_with (refine wpList_storeW (vs := rwArr u' z' [] da2 dc2) HW5.out.bm (by rfl) 51 _ _ (by rfl) (by rfl) (by rfl) rfl Try.infoRefView (by rw [← Array.all_toList]; rfl) ?_)
              intro w6 f6 b6
              have HN : Hid (MdSt w0 W.heap.size q m w6) := Lib.hid ⟨⟨v', u', ⟨⟨y', z', da2, dc2, HW5.out.storeM HCc.out f6 b6 H3.out AU.out (.inl rfl)⟩, HK.out.1, HK.out.2.1, HK.out.2.2.1⟩, HK.out.2.2.2.1, HK.out.2.2.2.2.1, HK.out.2.2.2.2.2, y', z', da2, dc2, HW5.out.storeM HCc.out f6 b6 H3.out AU.out (.inl rfl), AV9.out, AU9.out⟩⟩
              clear f6 b6 HW5 H3 AU

              go_wp2_with fail
              go_roundw
              case rel => exact ⟨k + 1, by go_num, hlt, HN.out⟩
              case measure => simp [intOf]; omega
            · rw [decide_eq_false hlt]
              clear hlt hk
              obtain ⟨v, u, hst, hv1, hv2, hv3, y, z, da', dc', hw, hap1, hap2⟩ := ST.out.st
              have AP1 := Lib.hid hap1
              have AP2 := Lib.hid hap2
              have hs9 := hw.gr.size
              clear hap1 hap2
              have HW := Lib.hid hw
              have HST := Lib.hid (And.intro hst.like (And.intro hst.good (And.intro hst.sane (And.intro hv1 (And.intro hv2 hv3)))))
              have q1 := hw.ra.act.le
              have q2 := hw.ra.act.max
              have q3 := hw.ra.pas.le
              have q4 := hw.ra.pas.max
              have q5 := hw.va.act.le
              have q6 := hw.va.act.max
              have q7 := hw.va.pas.le
              have q8 := hw.va.pas.max
              have HDr := Lib.hid (HD.out.keep hw.gr (fun _ _ h => h))
              clear hst hw ST HA HP hv1 hv2 hv3 HD
              go_upto_region 13 with fail
              have yc := (Bx.of_block HW.out.bm) 5 _ rfl
              have zc := Lib.frozen_of_heap HW.out.bm 5
              go_upto_region 14 with fail
              obtain ⟨w30, hw30⟩ : ∃ w30, w30 = World.setCell wr ⟨m, 5, none⟩ (.slice da ds.length dc) := ⟨_, rfl⟩
              rw [← hw30]
              have f30 : Fr (fun k => k = m) wr w30 := by rw [hw30]; exact (Fr.refl (fun k => k = m) _).setCell (p := ⟨m, 5, none⟩) (.inl rfl) _
              have b30 : w30.heap[m]? = some (.cells (rwArr u z ds da dc) 51 (0, 0)) := by rw [hw30]; exact blk_set1 HW.out.bm 5 _
              clear hw30 yc zc
              have BV := Lib.hid (blk_keep f30 HW.out.bv (by omega))
              have BM := Lib.hid b30
              have VA := Lib.hid (HW.out.va.keepA f30 (HW.out.av.sub m_S))
              have RA : Hid (RwAt w30 u z ds da dc) := Lib.hid ⟨HW.out.ra.act.keepNE f30 (HW.out.au.sub m_S).1, HW.out.ra.pas.keepNE f30 (HW.out.au.sub m_S).2, dr_keep HDr.out f30 HW.out.bm (noU32_arr _ _ _ _ _)⟩
              have FF := Lib.hid (Gr.trans F0.out (fr_new HW.out.gr f30 HCc.out.m0))
              have A30 := Lib.hid (blk_keep f30 (blk_keep HW.out.gr A0.out (fun h => h)) (by omega))
              have B30 := Lib.hid (blk_keep f30 (blk_keep HW.out.gr B0.out (fun h => h)) (by omega))
              have q9 := HDr.out.le
              have q10 := HDr.out.max
              have s30 := f30.size
              clear HW HDr A0 B0 F0 f30 b30
              haveI : Nonempty (WC (fun w => Bx w m (Array.toList (rwArr u z ds da dc)))) := ⟨⟨w30, Bx.of_block BM.out⟩⟩
              have x0 : ∀ z' : WC (fun w => Bx w m (Array.toList (rwArr u z ds da dc))), z'.val.cell? ⟨m, 0, none⟩ = some (.int .i64 u.self) := fun z' => z'.ok 0 _ rfl
              have x1 : ∀ z' : WC (fun w => Bx w m (Array.toList (rwArr u z ds da dc))), z'.val.cell? ⟨m, 1, none⟩ = some (.slice z.aa u.act.length z.ac) := fun z' => z'.ok 1 _ rfl
              have x2 : ∀ z' : WC (fun w => Bx w m (Array.toList (rwArr u z ds da dc))), z'.val.cell? ⟨m, 2, none⟩ = some (.slice z.pa u.pas.length z.pc) := fun z' => z'.ok 2 _ rfl
              have x3 : ∀ z' : WC (fun w => Bx w m (Array.toList (rwArr u z ds da dc))), z'.val.cell? ⟨m, 3, none⟩ = some (.int .i64 u.am) := fun z' => z'.ok 3 _ rfl
              have x4 : ∀ z' : WC (fun w => Bx w m (Array.toList (rwArr u z ds da dc))), z'.val.cell? ⟨m, 4, none⟩ = some (.int .i64 u.pm) := fun z' => z'.ok 4 _ rfl
              have x5 : ∀ z' : WC (fun w => Bx w m (Array.toList (rwArr u z ds da dc))), z'.val.cell? ⟨m, 5, none⟩ = some (.slice da ds.length dc) := fun z' => z'.ok 5 _ rfl
              refine wp_region_lastO 3 [0, 2] [] [0, 1, 2] (fun w' => ∃ z' : WC (fun w => Bx w m (Array.toList (rwArr u z ds da dc))), w' = z'.val) (by kernel_rfl) (by kernel_rfl) (fun c a w d v h => by cases d <;> exact h) (fun c a w d v h => by cases d <;> exact h) ⟨⟨w30.drew, Bx.of_block BM.out⟩, rfl⟩ ?_
              simp only [List.take]
              have BV1 := Lib.hid (show w30.drew.heap[q]? = some (.cells (v.arr y) 29 (0, 0)) from BV.out)
              refine wpT_e (by simp only [List.getElem?_toArray, List.getElem?_cons_zero] <;> rfl) (by rfl) ?_
              refine wpList_load_mid (by rfl) 29 _ (by rfl) q 0 (by rfl) (Array.toList (v.arr y)) _ (blk_range BV1.out) Try.underlying29 rfl Try.infoView ?_
              go_wp2_with fail
              refine ⟨⟨⟨w30.drew, Bx.of_block BM.out⟩, rfl⟩, ?_⟩
              try simp only [Act.put, List.setIfInBounds_toArray, List.set_cons_succ, List.set_cons_zero]
              repeat (refine wpT_q (by simp only [List.getElem?_toArray, List.getElem?_cons_succ, List.getElem?_cons_zero] <;> rfl) (by rfl) (by rfl) ?_; go_big_quiet_step (fail); refine wpQuiet_nil ?_)
              refine wpT_e (by simp only [List.getElem?_toArray, List.getElem?_cons_succ, List.getElem?_cons_zero] <;> rfl) (by rfl) ?_
              have A31 := Lib.hid (show w30.drew.heap[W.heap.size]? = some (.cells viewZ 29 (0, 0)) from A30.out)
              go_wp2_with (refine wpList_storeW (vs := v.arr y) A31.out (by rfl) 29 _ _ (by rfl) (by rfl) (by rfl) rfl Try.infoView (by rw [← Array.all_toList]; rfl) ?_)
              intro w31 f31' b31
              refine wpList_nil ?_
              have f31 : Fr (fun k => k = W.heap.size) w30 w31 := Fr.trans ((Fr.refl _ _).drew) f31' (fun _ h => .inl h)
              have A32 := Lib.hid b31
              have B32 := Lib.hid (blk_keep f31 B30.out (by omega))
              have M32 := Lib.hid (blk_keep f31 BM.out (by omega))
              have VA2 := Lib.hid (VA.out.keepA f31 (AP1.out.sub (fun _ h => .inl h)))
              have RA2 := Lib.hid (RA.out.store f31 AP2.out (.inl rfl) A30.out (noU32_vw ⟨0, [], 0, [], 0⟩ vwNone))
              have FF2 := Lib.hid (fr_new FF.out f31 (Nat.le_refl _))
              clear f31 f31' b31 A30 A31 B30 BM BV BV1 VA RA FF
              refine ⟨⟨⟨w31, Bx.of_block M32.out⟩, rfl⟩, ?_⟩
              clear x0 x1 x2 x3 x4 x5 this
              refine wpT_nil ?_
              simp only [lastQ, List.drop]
              go_wp2_with (refine wpList_storeW (vs := rwArr u z ds da dc) B32.out (by rfl) 51 _ _ (by rfl) (by rfl) (by rfl) rfl Try.infoRefView (by rw [← Array.all_toList]; rfl) ?_)
              intro w33 f33 b33
              have A34 := Lib.hid (blk_keep f33 A32.out (by omega))
              have L7 : Hid ((loadVar 29 ⟨W.heap.size, 0, none⟩).run Try.prog w33 = .ok (.agg (v.arr y)) w33) := Lib.hid (run_loadVar_mid w33 W.heap.size 0 29 (Array.toList (v.arr y)) _ (blk_range A34.out) Try.underlying29 rfl Try.infoView)
              have A7 : Hid ((asAddr (.pointer (some ⟨W.heap.size, 0, none⟩))).run Try.prog w33 = .ok ⟨W.heap.size, 0, none⟩ w33) := Lib.hid (by simp [go_sem])
              have L8 : Hid ((loadVar 51 ⟨W.heap.size + 1, 0, none⟩).run Try.prog w33 = .ok (.agg (rwArr u z ds da dc)) w33) := Lib.hid (run_loadVar_mid w33 (W.heap.size + 1) 0 51 (Array.toList (rwArr u z ds da dc)) _ (blk_range b33) Try.underlying51 rfl Try.infoRefView)
              have A8 : Hid ((asAddr (.pointer (some ⟨W.heap.size + 1, 0, none⟩))).run Try.prog w33 = .ok ⟨W.heap.size + 1, 0, none⟩ w33) := Lib.hid (by simp [go_sem])
              have VA3 := Lib.hid (VA2.out.keepA f33 (AP1.out.sub (fun _ h => .inr h)))
              have RA3 := Lib.hid (RA2.out.store f33 AP2.out (.inr rfl) B32.out noU32_z)
              have FF3 := Lib.hid (fr_new FF2.out f33 (show W.heap.size ≤ W.heap.size + 1 by omega))
              clear f33 b33 A32 B32 M32 VA2 RA2 FF2
              go_wp2_with fail
              refine bodyPost_ret (v := .tuple #[.agg (v.arr y), .agg (rwArr u z ds da dc)]) (by simp [results, Try.results41, Sem.run_bind, Result.andThen_ok, L7.out, A7.out, L8.out, A8.out]) rfl ?_
              exact ⟨v, y, u, z, rfl, VA3.out, RA3.out, HST.out.1, HST.out.2.1, HST.out.2.2.1, HST.out.2.2.2.1, HST.out.2.2.2.2.1, HST.out.2.2.2.2.2, FF3.out⟩
end Go.Proofs.Ytdpnkikaciigoaa
