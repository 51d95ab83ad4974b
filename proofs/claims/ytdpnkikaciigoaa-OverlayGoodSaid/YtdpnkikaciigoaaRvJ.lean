/-
  The document's view: Join (printed by gen_rv.py).
-/
import Derived.Test.YtdpnkikaciigoaaRvA
namespace Go.Proofs.Ytdpnkikaciigoaa
open Go.RowKit Go.Proofs

set_option maxHeartbeats 4000000 in
set_option maxRecDepth 100000 in
theorem news_two9 (w : World) (o : Obj) (v : Value) (e : TypeId) : ∀ j u, [v][j]? = some u → ((w.alloc o).alloc (.cells #[v] e)).cell? ((⟨w.heap.size + 1, 0, none⟩ : Addr).add j) = some u := by
  intro j u hj
  have := news_one (w.alloc o) v e j u hj
  rwa [World.size_alloc] at this

set_option maxHeartbeats 4000000 in
set_option maxRecDepth 100000 in
theorem refJoin_any (u : Vw) (y : VwP) (n : Int) (ds : List Int) (da : Option Addr) (dc : Nat) (W : World) (h : RwAt W u y ds da dc) (hla : u.act.length ≤ 100) (hlp : u.pas.length ≤ 100) :
    Calls Try.prog 36 #[.agg (rwArr u y ds da dc), .int .i64 n] W (RwEnd u y da (rJoin u n) ds (fun l => .tuple #[.agg l, .bool (!rJoinNo u n)]) W) := by
  obtain ⟨i0, hi, hz0, hz1, hz2⟩ := info_parts Try.infoint
  obtain ⟨w1, hw1⟩ : ∃ w1, w1 = (W.alloc (.cells (rwArr u y ds da dc) 51)).alloc (.cells rwZ 51) := ⟨_, rfl⟩
  have f1 : Gr W w1 := by rw [hw1]; exact ((Fr.refl _ _).alloc _).alloc _
  have V1 := Lib.hid (show w1.heap[W.heap.size]? = some (.cells (rwArr u y ds da dc) 51 (0, 0)) by rw [hw1, heap_alloc_if, if_neg (by simp), heap_alloc_if, if_pos rfl])
  have R1 := Lib.hid (show w1.heap[W.heap.size + 1]? = some (.cells rwZ 51 (0, 0)) by rw [hw1, heap_alloc_if, if_pos (by simp)])
  have s1 : W.heap.size + 1 < w1.heap.size := by rw [hw1]; simp
  have F1 := Lib.hid f1
  have HW1 := Lib.hid hw1
  have H1 := Lib.hid (h.gr f1)
  have e1 := h.act.le
  have e2 := h.act.max
  have e3 := h.pas.le
  have e4 := h.pas.max
  have e5 := h.dr.le
  have e6 := h.dr.max
  obtain ⟨S, hS⟩ : ∃ S : Nat → Prop, S = fun k => k = W.heap.size ∨ k = W.heap.size + 1 := ⟨_, rfl⟩
  have AP := Lib.hid (show VwApart S u y from h.new (fun k hk => by rw [hS] at hk; omega))
  have HS := Lib.hid (show S W.heap.size ∧ S (W.heap.size + 1) ∧ ∀ k, S k → k < w1.heap.size by rw [hS]; exact ⟨.inl rfl, .inr rfl, fun k hk => by omega⟩)
  clear hw1 f1 h hS
  have CH := Lib.hid (refHas_any y.aa y.ac u.act n w1 H1.out.act)
  have CW := Lib.hid (refWithout_any y.pa y.pc u.pas n w1 H1.out.pas hlp)
  obtain ⟨cb, hcb⟩ : ∃ cb, cb = rJoinNo u n := ⟨_, rfl⟩
  obtain ⟨u', hu'⟩ : ∃ u', u' = rJoin u n := ⟨_, rfl⟩
  unfold RwEnd
  rw [← hcb, ← hu']
  unfold rJoin at hu'
  rw [← hcb] at hu'
  unfold rJoinNo at hcb
  obtain ⟨bh, hbh⟩ : ∃ b, b = has u.act n := ⟨_, rfl⟩
  rw [← hbh] at CH hcb hu'
  generalize rDrop u.pas n = l' at CW hu'
  have HU := Lib.hid hu'
  have HBH := Lib.hid hbh
  have y0 := (Bx.of_block V1.out) 0 _ rfl
  obtain ⟨sv, hsv⟩ : ∃ s, s = u.self := ⟨_, rfl⟩
  rw [← hsv] at y0 hcb
  have HCB := Lib.hid hcb
  clear hsv
  have y1 := (Bx.of_block V1.out) 1 _ rfl
  have y3 := (Bx.of_block V1.out) 3 _ rfl
  clear hu' hcb hbh
  go_enter Try.func36, Try.ntmps36
  go_upto_region 1 with fail
  rw [← HW1.out]
  clear HW1
  go_cut [32] from 6 to 32 (fun c wx => c = .bool cb ∧ wx = w1)
  case first =>
    by_cases h1 : n < 1
    · have hd := Lib.hid (show cb = true by rw [HCB.out, decide_eq_true h1]; rfl)
      go_wp2_with fail
      go_meet
      exact ⟨by rw [hd.out], rfl⟩
    · by_cases h2 : 65535 < n
      · have hd := Lib.hid (show cb = true by rw [HCB.out, decide_eq_true h2]; simp)
        go_wp2_with fail
        go_meet
        exact ⟨by rw [hd.out], rfl⟩
      · cases hb3 : (n == sv)
        case true =>
          have hd := Lib.hid (show cb = true by rw [HCB.out, hb3]; simp)
          have hn : sv = n := by simpa using (beq_iff_eq.1 hb3).symm
          subst hn
          clear HCB
          go_wp2_with fail
          go_meet
          exact ⟨by rw [hd.out], rfl⟩
        case false =>
          have hcb2 : Hid (cb = (!bh && decide (u.am ≤ (u.act.length : Int)))) := Lib.hid (by rw [HCB.out, decide_eq_false h1, decide_eq_false h2, hb3]; simp)
          clear HCB
          go_wp2_with fail
          refine CH.out.mono ?_
          rintro e w2 ⟨rfl, rfl⟩
          cases bh
          case true =>
            have hd := Lib.hid (show cb = false by rw [hcb2.out]; rfl)
            go_wp2_with fail
            go_meet
            exact ⟨by rw [hd.out], rfl⟩
          case false =>
            by_cases h5 : u.am ≤ (u.act.length : Int)
            · have hd := Lib.hid (show cb = true by rw [hcb2.out, decide_eq_true h5]; rfl)
              go_wp2_with fail
              go_meet
              exact ⟨by rw [hd.out], rfl⟩
            · have hd := Lib.hid (show cb = false by rw [hcb2.out, decide_eq_false h5]; rfl)
              go_wp2_with fail
              go_meet
              exact ⟨by rw [hd.out, decide_eq_false (show ¬ u.am ≤ (u.act.length : Int) by omega)], rfl⟩
  case rest =>
    obtain ⟨rfl, rfl⟩ := hcut
    clear HCB CH y0 y1 y3
    obtain ⟨w1, hwx⟩ : ∃ x, x = wc := ⟨_, rfl⟩
    subst hwx
    cases cb
    case true =>
      obtain rfl : u' = u := by have := HU.out; simpa using this
      clear CW HU HBH
      go_upto_region 2 with fail
      refine wp_region_lit ?_
      refine wpList_load_mid (by rfl) 51 _ (by rfl) W.heap.size 0 (by rfl) (Array.toList (rwArr u' y ds da dc)) _ (blk_range V1.out) Try.underlying51 rfl Try.infoRefView ?_
      go_wp2_with (refine wpList_storeW (vs := rwArr u' y ds da dc) R1.out (by rfl) 51 _ _ (by rfl) (by rfl) (by rfl) rfl Try.infoRefView (by rw [← Array.all_toList]; rfl) ?_)
      intro w8 f8 b8
      have F8 := Lib.hid (fr_new F1.out f8 (show W.heap.size ≤ W.heap.size + 1 by omega))
      have R8 := Lib.hid b8
      have H8 := Lib.hid (H1.out.store f8 AP.out HS.out.2.1 R1.out (by first | exact noU32_z | exact noU32_arr _ _ _ _ _))
      clear f8 b8
      have L8 : Hid ((loadVar 51 ⟨W.heap.size + 1, 0, none⟩).run Try.prog w8 = .ok (.agg (rwArr u' y ds da dc)) w8) := Lib.hid (run_loadVar_mid w8 (W.heap.size + 1) 0 51 (Array.toList (rwArr u' y ds da dc)) _ (blk_range R8.out) Try.underlying51 rfl Try.infoRefView)
      have A8 : Hid ((asAddr (.pointer (some ⟨W.heap.size + 1, 0, none⟩))).run Try.prog w8 = .ok ⟨W.heap.size + 1, 0, none⟩ w8) := Lib.hid (by simp [go_sem])
      go_wp2_with fail
      refine bodyPost_ret (v := .tuple #[.agg (rwArr u' y ds da dc), .bool false]) (by simp [results, Try.results36, Sem.run_bind, Result.andThen_ok, L8.out, A8.out]) rfl ?_
      exact ⟨y, da, dc, rfl, H8.out, VwFrom.refl _ _ _, DaOf.refl _, F8.out⟩
    case false =>
      have y2 := (Bx.of_block V1.out) 2 _ rfl
      go_wp2_with fail
      refine CW.out.mono ?_
      rintro e w2 ⟨a', c', rfl, hs', hn', f2⟩
      have V2 := Lib.hid (blk_keep f2 V1.out (fun h => h))
      have R2 := Lib.hid (blk_keep f2 R1.out (fun h => h))
      have F2 := Lib.hid (Gr.trans F1.out f2)
      have H2 := Lib.hid (show RwAt w2 ⟨u.self, u.act, u.am, l', u.pm⟩ ⟨y.aa, y.ac, a', c'⟩ ds da dc from ⟨(H1.out.gr f2).act, hs', (H1.out.gr f2).dr⟩)
      have KF := Lib.hid (show VwFrom w1 u y ⟨u.self, u.act, u.am, l', u.pm⟩ ⟨y.aa, y.ac, a', c'⟩ from ⟨fun q h => .inl ⟨h, rfl⟩, fun q h => .inr (hn' q h)⟩)
      have AP2 := Lib.hid (AP.out.next KF.out HS.out.2.2)
      have hs12 := f2.size
      have e7 := hs'.le
      have e8 := hs'.max
      clear f2 V1 R1 F1 CW y2 hs' H1 hn'
      have yc := (Bx.of_block V2.out) 2 _ rfl
      have zc := Lib.frozen_of_heap V2.out 2
      go_upto_region 4 with fail
      obtain ⟨w3, hw3⟩ : ∃ w3, w3 = World.setCell w2 ⟨W.heap.size, 2, none⟩ (.slice a' l'.length c') := ⟨_, rfl⟩
      rw [← hw3]
      have f3 : Fr (fun k => k = W.heap.size) w2 w3 := by rw [hw3]; exact (Fr.refl (fun k => k = W.heap.size) _).setCell (p := ⟨W.heap.size, 2, none⟩) (.inl rfl) _
      have b3 : w3.heap[W.heap.size]? = some (.cells (rwArr ⟨u.self, u.act, u.am, l', u.pm⟩ ⟨y.aa, y.ac, a', c'⟩ ds da dc) 51 (0, 0)) := by rw [hw3]; exact blk_set1 V2.out 2 _
      clear hw3 yc zc
      have V3 := Lib.hid b3
      have R3 := Lib.hid (blk_keep f3 R2.out (by omega))
      have F3 := Lib.hid (fr_new F2.out f3 (Nat.le_refl _))
      have H3 := Lib.hid (H2.out.store f3 AP2.out HS.out.1 V2.out (noU32_arr _ _ _ _ _))
      have hs23 := f3.size
      clear f3 b3 V2 R2 F2 H2
      have CH := Lib.hid (refHas_any y.aa y.ac u.act n w3 H3.out.act)
      rw [← HBH.out] at CH
      have y1 := (Bx.of_block V3.out) 1 _ rfl
      go_wp2_with fail
      refine CH.out.mono ?_
      rintro e w4 ⟨rfl, hww⟩
      obtain rfl := hww
      clear CH y1 HBH
      cases bh
      case true =>
        go_upto_region 6 with fail
        refine wp_region_lit ?_
        refine wpList_load_mid (by rfl) 51 _ (by rfl) W.heap.size 0 (by rfl) (Array.toList (rwArr ⟨u.self, u.act, u.am, l', u.pm⟩ ⟨y.aa, y.ac, a', c'⟩ ds da dc)) _ (blk_range V3.out) Try.underlying51 rfl Try.infoRefView ?_
        go_wp2_with (refine wpList_storeW (vs := rwArr ⟨u.self, u.act, u.am, l', u.pm⟩ ⟨y.aa, y.ac, a', c'⟩ ds da dc) R3.out (by rfl) 51 _ _ (by rfl) (by rfl) (by rfl) rfl Try.infoRefView (by rw [← Array.all_toList]; rfl) ?_)
        intro w8 f8 b8
        have F8 := Lib.hid (fr_new F3.out f8 (show W.heap.size ≤ W.heap.size + 1 by omega))
        have R8 := Lib.hid b8
        have H8 := Lib.hid (H3.out.store f8 AP2.out HS.out.2.1 R3.out (by first | exact noU32_z | exact noU32_arr _ _ _ _ _))
        clear f8 b8
        have L8 : Hid ((loadVar 51 ⟨W.heap.size + 1, 0, none⟩).run Try.prog w8 = .ok (.agg (rwArr ⟨u.self, u.act, u.am, l', u.pm⟩ ⟨y.aa, y.ac, a', c'⟩ ds da dc)) w8) := Lib.hid (run_loadVar_mid w8 (W.heap.size + 1) 0 51 (Array.toList (rwArr ⟨u.self, u.act, u.am, l', u.pm⟩ ⟨y.aa, y.ac, a', c'⟩ ds da dc)) _ (blk_range R8.out) Try.underlying51 rfl Try.infoRefView)
        have A8 : Hid ((asAddr (.pointer (some ⟨W.heap.size + 1, 0, none⟩))).run Try.prog w8 = .ok ⟨W.heap.size + 1, 0, none⟩ w8) := Lib.hid (by simp [go_sem])
        go_wp2_with fail
        refine bodyPost_ret (v := .tuple #[.agg (rwArr ⟨u.self, u.act, u.am, l', u.pm⟩ ⟨y.aa, y.ac, a', c'⟩ ds da dc), .bool true]) (by simp [results, Try.results36, Sem.run_bind, Result.andThen_ok, L8.out, A8.out]) rfl ?_
        obtain rfl := HU.out
        exact ⟨_, _, _, rfl, H8.out, KF.out.mono (by omega), DaOf.refl _, F8.out⟩
      case false =>
        cases hq : y.aa with
        | none =>
          have hl0 : u.act = [] := sla_none (by have h0 : SlA w3 y.aa u.act.length y.ac (ints u.act) := H3.out.act; rw [hq] at h0; exact h0)
          have yr : w3.cell? ⟨W.heap.size, 1, none⟩ = some (.slice y.aa u.act.length y.ac) := (Bx.of_block V3.out) 1 _ rfl
          have hltw : W.heap.size < w3.heap.size := (Array.getElem?_eq_some_iff.1 V3.out).1
          rw [hq, hl0] at yr
          simp only [List.length_nil] at yr
          go_wp2_with (at_builtin; refine wpList_append_own _ rfl _ _ 22 rfl w3.heap.size 3 i0 (.int .i64 0) 1 8 Try.underlying22 hi hz0 hz1 hz2 rfl (by decide) _ _ _ rfl ((own_empty w3 _ _ (Nat.le_refl _)).alloc _) ⟨w3.heap.size + 1, 0, none⟩ 1 1 [.int .i64 n] rfl rfl (news_two9 _ _ _ _) (one_one _ rfl) (by unfold maxLen; omega) (by omega) (by simp only [World.size_alloc]; omega) ?_)
          intro v2 w8 hown2 hgrow2 _
          have f8 : Gr w3 w8 := (((Fr.refl (fun _ => False) w3).alloc _).alloc _).grown hgrow2 (fun q hq => .inr (by simp [Value.ownBlock] at hq; omega))
          have hown3 : w8.ownsRow w3.heap.size 3 1 v2 (u.act ++ [n]).length (ints (u.act ++ [n])) := by rw [hl0]; simpa using hown2
          obtain ⟨nl, hnl⟩ : ∃ nl, nl = u.act ++ [n] := ⟨_, rfl⟩
          rw [← hnl] at hown3
          have HNL := Lib.hid hnl
          clear hnl hl0
          obtain ⟨a9, c9, rfl, hs9', hn9, -⟩ := SlA.of_own hown3
          clear hown2 hown3 hgrow2 yr hltw
          have V8 := Lib.hid (blk_keep f8 V3.out (fun h => h))
          have R8 := Lib.hid (blk_keep f8 R3.out (fun h => h))
          have F8 := Lib.hid (Gr.trans F3.out f8)
          have HK := H3.out.gr f8
          have H8 := Lib.hid (show RwAt w8 ⟨u.self, nl, u.am, l', u.pm⟩ ⟨a9, c9, a', c'⟩ ds da dc from ⟨hs9', HK.pas, HK.dr⟩)
          have hsz8 := F3.out.size
          have KF8 := Lib.hid (show VwFrom w1 u y ⟨u.self, nl, u.am, l', u.pm⟩ ⟨a9, c9, a', c'⟩ from ⟨fun q h => .inr (by have := (hn9 q h).1; omega), KF.out.2⟩)
          have AP8 := Lib.hid (AP.out.next KF8.out HS.out.2.2)
          have e11 := hs9'.le
          have e12 := hs9'.max
          clear f8 HK hs9' hn9 V3 R3 F3 H3 AP2 hsz8
          have yc := (Bx.of_block V8.out) 1 _ rfl
          have zc := Lib.frozen_of_heap V8.out 1
          go_upto_region 6 with fail
          obtain ⟨w9, hw3⟩ : ∃ w3, w3 = World.setCell w8 ⟨W.heap.size, 1, none⟩ (.slice a9 nl.length c9) := ⟨_, rfl⟩
          rw [← hw3]
          have f3 : Fr (fun k => k = W.heap.size) w8 w9 := by rw [hw3]; exact (Fr.refl (fun k => k = W.heap.size) _).setCell (p := ⟨W.heap.size, 1, none⟩) (.inl rfl) _
          have b3 : w9.heap[W.heap.size]? = some (.cells (rwArr ⟨u.self, nl, u.am, l', u.pm⟩ ⟨a9, c9, a', c'⟩ ds da dc) 51 (0, 0)) := by rw [hw3]; exact blk_set1 V8.out 1 _
          clear hw3 yc zc
          have V9 := Lib.hid b3
          have R9 := Lib.hid (blk_keep f3 R8.out (by omega))
          have F9 := Lib.hid (fr_new F8.out f3 (Nat.le_refl _))
          have H9 := Lib.hid (H8.out.store f3 AP8.out HS.out.1 V8.out (noU32_arr _ _ _ _ _))
          clear f3 b3 V8 R8 F8 H8
          go_upto_region 6 with fail
          refine wp_region_lit ?_
          refine wpList_load_mid (by rfl) 51 _ (by rfl) W.heap.size 0 (by rfl) (Array.toList (rwArr ⟨u.self, nl, u.am, l', u.pm⟩ ⟨a9, c9, a', c'⟩ ds da dc)) _ (blk_range V9.out) Try.underlying51 rfl Try.infoRefView ?_
          go_wp2_with (refine wpList_storeW (vs := rwArr ⟨u.self, nl, u.am, l', u.pm⟩ ⟨a9, c9, a', c'⟩ ds da dc) R9.out (by rfl) 51 _ _ (by rfl) (by rfl) (by rfl) rfl Try.infoRefView (by rw [← Array.all_toList]; rfl) ?_)
          intro w10 f10 b10
          have F10 := Lib.hid (fr_new F9.out f10 (show W.heap.size ≤ W.heap.size + 1 by omega))
          have R10 := Lib.hid b10
          have H10 := Lib.hid (H9.out.store f10 AP8.out HS.out.2.1 R9.out (by first | exact noU32_z | exact noU32_arr _ _ _ _ _))
          clear f10 b10
          have L10 : Hid ((loadVar 51 ⟨W.heap.size + 1, 0, none⟩).run Try.prog w10 = .ok (.agg (rwArr ⟨u.self, nl, u.am, l', u.pm⟩ ⟨a9, c9, a', c'⟩ ds da dc)) w10) := Lib.hid (run_loadVar_mid w10 (W.heap.size + 1) 0 51 (Array.toList (rwArr ⟨u.self, nl, u.am, l', u.pm⟩ ⟨a9, c9, a', c'⟩ ds da dc)) _ (blk_range R10.out) Try.underlying51 rfl Try.infoRefView)
          have A10 : Hid ((asAddr (.pointer (some ⟨W.heap.size + 1, 0, none⟩))).run Try.prog w10 = .ok ⟨W.heap.size + 1, 0, none⟩ w10) := Lib.hid (by simp [go_sem])
          go_wp2_with fail
          refine bodyPost_ret (v := .tuple #[.agg (rwArr ⟨u.self, nl, u.am, l', u.pm⟩ ⟨a9, c9, a', c'⟩ ds da dc), .bool true]) (by simp [results, Try.results36, Sem.run_bind, Result.andThen_ok, L10.out, A10.out]) rfl ?_
          have hu : u' = ⟨u.self, nl, u.am, l', u.pm⟩ := by rw [HNL.out]; exact HU.out
          subst hu
          exact ⟨_, _, _, rfl, H10.out, KF8.out.mono (by omega), DaOf.refl _, F10.out⟩
        | some ad =>
          have HR0 := Lib.hid (show SlA w3 (some ad) u.act.length y.ac (ints u.act) from by have h0 : SlA w3 y.aa u.act.length y.ac (ints u.act) := H3.out.act; rw [hq] at h0; exact h0)
          have HNW := Lib.hid (show ∀ (j : Nat) (z : Value), (ints u.act)[j]? = some z → (w3.alloc (.cells #[] 3)).cell? (ad.add j) = some z from by
            intro j z hj
            obtain ⟨b', o', e, hc⟩ := HR0.out.cell j z hj
            cases e
            rw [Addr.add_lit]
            rw [World.cell?_alloc_old _ _ _ (Nat.ne_of_lt (lt_of_cell hc))]; exact hc)
          have yr : w3.cell? ⟨W.heap.size, 1, none⟩ = some (.slice y.aa u.act.length y.ac) := (Bx.of_block V3.out) 1 _ rfl
          have hltw : W.heap.size < w3.heap.size := (Array.getElem?_eq_some_iff.1 V3.out).1
          rw [hq] at yr
          go_wp2_with (at_builtin; refine wpList_append_own _ rfl _ _ 22 rfl w3.heap.size 3 i0 (.int .i64 0) 1 8 Try.underlying22 hi hz0 hz1 hz2 rfl (by decide) _ _ _ rfl (own_empty w3 _ _ (Nat.le_refl _)) ad u.act.length y.ac (ints u.act) rfl (by simp) HNW.out (one_map _ u.act (fun _ => rfl)) (by unfold maxLen; omega) (by omega) (by simp) ?_)
          intro v1 w5 hown1 hgrow1 _
          have f5 : Gr w3 w5 := ((Fr.refl (fun _ => False) w3).alloc _).grown hgrow1 (fun q hq => .inr (by simp [Value.ownBlock] at hq; omega))
          have HO1 := Lib.hid hown1
          have F5 := Lib.hid f5
          have hsz5 := f5.size
          clear hown1 hgrow1 f5 yr HR0 HNW
          go_wp2_with (at_builtin; refine wpList_append_own _ rfl _ _ 22 rfl w3.heap.size 3 i0 (.int .i64 0) 1 8 Try.underlying22 hi hz0 hz1 hz2 rfl (by decide) _ _ _ rfl (HO1.out.alloc _) ⟨w5.heap.size, 0, none⟩ 1 1 [.int .i64 n] rfl rfl (news_one _ _ _) (one_one _ rfl) (by unfold maxLen; omega) (by omega) (by rw [World.size_alloc]; omega) ?_)
          intro v2 w8 hown2 hgrow2 _
          have f8 : Gr w3 w8 := (F5.out.alloc _).grown hgrow2 (fun q hq => .inr ((HO1.out.lt q hq).1))
          have hown3 : w8.ownsRow w3.heap.size 3 1 v2 (u.act ++ [n]).length (ints (u.act ++ [n])) := by simpa using hown2
          obtain ⟨nl, hnl⟩ : ∃ nl, nl = u.act ++ [n] := ⟨_, rfl⟩
          rw [← hnl] at hown3
          have HNL := Lib.hid hnl
          clear hnl
          obtain ⟨a9, c9, rfl, hs9', hn9, -⟩ := SlA.of_own hown3
          clear hown2 hown3 hgrow2 HO1 F5 hsz5 hltw
          have V8 := Lib.hid (blk_keep f8 V3.out (fun h => h))
          have R8 := Lib.hid (blk_keep f8 R3.out (fun h => h))
          have F8 := Lib.hid (Gr.trans F3.out f8)
          have HK := H3.out.gr f8
          have H8 := Lib.hid (show RwAt w8 ⟨u.self, nl, u.am, l', u.pm⟩ ⟨a9, c9, a', c'⟩ ds da dc from ⟨hs9', HK.pas, HK.dr⟩)
          have hsz8 := F3.out.size
          have KF8 := Lib.hid (show VwFrom w1 u y ⟨u.self, nl, u.am, l', u.pm⟩ ⟨a9, c9, a', c'⟩ from ⟨fun q h => .inr (by have := (hn9 q h).1; omega), KF.out.2⟩)
          have AP8 := Lib.hid (AP.out.next KF8.out HS.out.2.2)
          have e11 := hs9'.le
          have e12 := hs9'.max
          clear f8 HK hs9' hn9 V3 R3 F3 H3 AP2 hsz8
          have yc := (Bx.of_block V8.out) 1 _ rfl
          have zc := Lib.frozen_of_heap V8.out 1
          go_upto_region 6 with fail
          obtain ⟨w9, hw3⟩ : ∃ w3, w3 = World.setCell w8 ⟨W.heap.size, 1, none⟩ (.slice a9 nl.length c9) := ⟨_, rfl⟩
          rw [← hw3]
          have f3 : Fr (fun k => k = W.heap.size) w8 w9 := by rw [hw3]; exact (Fr.refl (fun k => k = W.heap.size) _).setCell (p := ⟨W.heap.size, 1, none⟩) (.inl rfl) _
          have b3 : w9.heap[W.heap.size]? = some (.cells (rwArr ⟨u.self, nl, u.am, l', u.pm⟩ ⟨a9, c9, a', c'⟩ ds da dc) 51 (0, 0)) := by rw [hw3]; exact blk_set1 V8.out 1 _
          clear hw3 yc zc
          have V9 := Lib.hid b3
          have R9 := Lib.hid (blk_keep f3 R8.out (by omega))
          have F9 := Lib.hid (fr_new F8.out f3 (Nat.le_refl _))
          have H9 := Lib.hid (H8.out.store f3 AP8.out HS.out.1 V8.out (noU32_arr _ _ _ _ _))
          clear f3 b3 V8 R8 F8 H8
          go_upto_region 6 with fail
          refine wp_region_lit ?_
          refine wpList_load_mid (by rfl) 51 _ (by rfl) W.heap.size 0 (by rfl) (Array.toList (rwArr ⟨u.self, nl, u.am, l', u.pm⟩ ⟨a9, c9, a', c'⟩ ds da dc)) _ (blk_range V9.out) Try.underlying51 rfl Try.infoRefView ?_
          go_wp2_with (refine wpList_storeW (vs := rwArr ⟨u.self, nl, u.am, l', u.pm⟩ ⟨a9, c9, a', c'⟩ ds da dc) R9.out (by rfl) 51 _ _ (by rfl) (by rfl) (by rfl) rfl Try.infoRefView (by rw [← Array.all_toList]; rfl) ?_)
          intro w10 f10 b10
          have F10 := Lib.hid (fr_new F9.out f10 (show W.heap.size ≤ W.heap.size + 1 by omega))
          have R10 := Lib.hid b10
          have H10 := Lib.hid (H9.out.store f10 AP8.out HS.out.2.1 R9.out (by first | exact noU32_z | exact noU32_arr _ _ _ _ _))
          clear f10 b10
          have L10 : Hid ((loadVar 51 ⟨W.heap.size + 1, 0, none⟩).run Try.prog w10 = .ok (.agg (rwArr ⟨u.self, nl, u.am, l', u.pm⟩ ⟨a9, c9, a', c'⟩ ds da dc)) w10) := Lib.hid (run_loadVar_mid w10 (W.heap.size + 1) 0 51 (Array.toList (rwArr ⟨u.self, nl, u.am, l', u.pm⟩ ⟨a9, c9, a', c'⟩ ds da dc)) _ (blk_range R10.out) Try.underlying51 rfl Try.infoRefView)
          have A10 : Hid ((asAddr (.pointer (some ⟨W.heap.size + 1, 0, none⟩))).run Try.prog w10 = .ok ⟨W.heap.size + 1, 0, none⟩ w10) := Lib.hid (by simp [go_sem])
          go_wp2_with fail
          refine bodyPost_ret (v := .tuple #[.agg (rwArr ⟨u.self, nl, u.am, l', u.pm⟩ ⟨a9, c9, a', c'⟩ ds da dc), .bool true]) (by simp [results, Try.results36, Sem.run_bind, Result.andThen_ok, L10.out, A10.out]) rfl ?_
          have hu : u' = ⟨u.self, nl, u.am, l', u.pm⟩ := by rw [HNL.out]; exact HU.out
          subst hu
          exact ⟨_, _, _, rfl, H10.out, KF8.out.mono (by omega), DaOf.refl _, F10.out⟩

end Go.Proofs.Ytdpnkikaciigoaa
