/-
  The document's view: Leave and Evict (printed by gen_rv.py).
-/
import Derived.Test.YtdpnkikaciigoaaRvK
namespace Go.Proofs.Ytdpnkikaciigoaa
open Go.RowKit Go.Proofs

set_option maxHeartbeats 4000000 in
set_option maxRecDepth 100000 in
theorem refLeave_any (u : Vw) (y : VwP) (n : Int) (keep : Bool) (ds : List Int) (da : Option Addr) (dc : Nat) (W : World) (h : RwAt W u y ds da dc) (hla : u.act.length ≤ 100) (hlp : u.pas.length ≤ 100) (hpm : 0 ≤ u.pm) (hr : ∀ x ∈ ds, 0 ≤ x ∧ x < 4294967296) :
    Calls Try.prog 33 #[.agg (rwArr u y ds da dc), .int .i64 n, .bool keep] W (RwEnd u y da (rLeave u n keep ds).1 (rLeave u n keep ds).2.2 (fun l => .tuple #[.agg l, .bool (rLeave u n keep ds).2.1]) W) := by
  obtain ⟨w1, hw1⟩ : ∃ w1, w1 = (W.alloc (.cells (rwArr u y ds da dc) 51)).alloc (.cells rwZ 51) := ⟨_, rfl⟩
  have f1 : Gr W w1 := by rw [hw1]; exact ((Fr.refl _ _).alloc _).alloc _
  have V1 := Lib.hid (show w1.heap[W.heap.size]? = some (.cells (rwArr u y ds da dc) 51 (0, 0)) by rw [hw1, heap_alloc_if, if_neg (by simp), heap_alloc_if, if_pos rfl])
  have R1 := Lib.hid (show w1.heap[W.heap.size + 1]? = some (.cells rwZ 51 (0, 0)) by rw [hw1, heap_alloc_if, if_pos (by simp)])
  have s1 : W.heap.size + 1 < w1.heap.size := by rw [hw1]; simp
  have F1 := Lib.hid f1
  have HW1 := Lib.hid hw1
  have H1 := Lib.hid (h.gr f1)
  have e1 := h.act.le
  have e2 := h.act.max
  have e3 := h.pas.le
  have e4 := h.pas.max
  have e5 := h.dr.le
  have e6 := h.dr.max
  obtain ⟨S, hS⟩ : ∃ S : Nat → Prop, S = fun k => k = W.heap.size ∨ k = W.heap.size + 1 := ⟨_, rfl⟩
  have AP := Lib.hid (show VwApart S u y from h.new (fun k hk => by rw [hS] at hk; omega))
  have HS := Lib.hid (show S W.heap.size ∧ S (W.heap.size + 1) ∧ ∀ k, S k → k < w1.heap.size by rw [hS]; exact ⟨.inl rfl, .inr rfl, fun k hk => by omega⟩)
  clear hw1 f1 h hS
  have CH := Lib.hid (refHas_any y.aa y.ac u.act n w1 H1.out.act)
  have CW := Lib.hid (refWithout_any y.aa y.ac u.act n w1 H1.out.act hla)
  obtain ⟨kk, hkk⟩ : ∃ kk, kk = rLeave u n keep ds := ⟨_, rfl⟩
  unfold RwEnd
  rw [← hkk]
  unfold rLeave at hkk
  generalize rDrop u.act n = l' at CW hkk
  generalize has u.act n = ba at CH hkk
  have HKK := Lib.hid hkk
  have HRG := Lib.hid hr
  have y1 := (Bx.of_block V1.out) 1 _ rfl
  clear hkk hr
  go_enter Try.func33, Try.ntmps33
  go_upto_region 1 with fail
  rw [← HW1.out]
  clear HW1
  go_wp2_with fail
  refine CH.out.mono ?_
  rintro e w2 ⟨rfl, rfl⟩
  clear CH y1
  cases ba
  case false =>
    obtain rfl : kk = (u, false, ds) := by have := HKK.out; simpa using this
    clear CW HKK
    go_upto_region 2 with fail
    refine wp_region_lit ?_
    refine wpList_load_mid (by rfl) 51 _ (by rfl) W.heap.size 0 (by rfl) (Array.toList (rwArr u y ds da dc)) _ (blk_range V1.out) Try.underlying51 rfl Try.infoRefView ?_
    go_wp2_with (refine wpList_storeW (vs := rwArr u y ds da dc) R1.out (by rfl) 51 _ _ (by rfl) (by rfl) (by rfl) rfl Try.infoRefView (by rw [← Array.all_toList]; rfl) ?_)
    intro w8 f8 b8
    have F8 := Lib.hid (fr_new F1.out f8 (show W.heap.size ≤ W.heap.size + 1 by omega))
    have R8 := Lib.hid b8
    have H8 := Lib.hid (H1.out.store f8 AP.out HS.out.2.1 R1.out (by first | exact noU32_z | exact noU32_arr _ _ _ _ _))
    clear f8 b8
    have L8 : Hid ((loadVar 51 ⟨W.heap.size + 1, 0, none⟩).run Try.prog w8 = .ok (.agg (rwArr u y ds da dc)) w8) := Lib.hid (run_loadVar_mid w8 (W.heap.size + 1) 0 51 (Array.toList (rwArr u y ds da dc)) _ (blk_range R8.out) Try.underlying51 rfl Try.infoRefView)
    have A8 : Hid ((asAddr (.pointer (some ⟨W.heap.size + 1, 0, none⟩))).run Try.prog w8 = .ok ⟨W.heap.size + 1, 0, none⟩ w8) := Lib.hid (by simp [go_sem])
    go_wp2_with fail
    refine bodyPost_ret (v := .tuple #[.agg (rwArr u y ds da dc), .bool false]) (by simp [results, Try.results33, Sem.run_bind, Result.andThen_ok, L8.out, A8.out]) rfl ?_
    exact ⟨y, da, dc, rfl, H8.out, VwFrom.refl _ _ _, DaOf.refl _, F8.out⟩
  case true =>
    have y1 := (Bx.of_block V1.out) 1 _ rfl
    go_upto_region 3 with fail
    go_wp2_with fail
    refine CW.out.mono ?_
    rintro e w2 ⟨a', c', rfl, hs', hn', f2⟩
    have V2 := Lib.hid (blk_keep f2 V1.out (fun h => h))
    have R2 := Lib.hid (blk_keep f2 R1.out (fun h => h))
    have F2 := Lib.hid (Gr.trans F1.out f2)
    have H2 := Lib.hid (show RwAt w2 ⟨u.self, l', u.am, u.pas, u.pm⟩ ⟨a', c', y.pa, y.pc⟩ ds da dc from ⟨hs', (H1.out.gr f2).pas, (H1.out.gr f2).dr⟩)
    have KF := Lib.hid (show VwFrom w1 u y ⟨u.self, l', u.am, u.pas, u.pm⟩ ⟨a', c', y.pa, y.pc⟩ from ⟨fun q h => .inr (hn' q h), fun q h => .inl ⟨h, rfl⟩⟩)
    have AP2 := Lib.hid (AP.out.next KF.out HS.out.2.2)
    have hs12 := f2.size
    have e7 := hs'.le
    have e8 := hs'.max
    clear f2 V1 R1 F1 CW y1 hs' H1 hn'
    have yc := (Bx.of_block V2.out) 1 _ rfl
    have zc := Lib.frozen_of_heap V2.out 1
    go_upto_region 4 with fail
    obtain ⟨w3, hw3⟩ : ∃ w3, w3 = World.setCell w2 ⟨W.heap.size, 1, none⟩ (.slice a' l'.length c') := ⟨_, rfl⟩
    rw [← hw3]
    have f3 : Fr (fun k => k = W.heap.size) w2 w3 := by rw [hw3]; exact (Fr.refl (fun k => k = W.heap.size) _).setCell (p := ⟨W.heap.size, 1, none⟩) (.inl rfl) _
    have b3 : w3.heap[W.heap.size]? = some (.cells (rwArr ⟨u.self, l', u.am, u.pas, u.pm⟩ ⟨a', c', y.pa, y.pc⟩ ds da dc) 51 (0, 0)) := by rw [hw3]; exact blk_set1 V2.out 1 _
    clear hw3 yc zc
    have V3 := Lib.hid b3
    have R3 := Lib.hid (blk_keep f3 R2.out (by omega))
    have F3 := Lib.hid (fr_new F2.out f3 (Nat.le_refl _))
    have H3 := Lib.hid (H2.out.store f3 AP2.out HS.out.1 V2.out (noU32_arr _ _ _ _ _))
    have hs23 := f3.size
    clear f3 b3 V2 R2 F2 H2
    cases keep
    case false =>
      obtain rfl : kk = (⟨u.self, l', u.am, u.pas, u.pm⟩, true, ds) := by have := HKK.out; simpa using this
      clear HKK
      go_upto_region 6 with fail
      refine wp_region_lit ?_
      refine wpList_load_mid (by rfl) 51 _ (by rfl) W.heap.size 0 (by rfl) (Array.toList (rwArr ⟨u.self, l', u.am, u.pas, u.pm⟩ ⟨a', c', y.pa, y.pc⟩ ds da dc)) _ (blk_range V3.out) Try.underlying51 rfl Try.infoRefView ?_
      go_wp2_with (refine wpList_storeW (vs := rwArr ⟨u.self, l', u.am, u.pas, u.pm⟩ ⟨a', c', y.pa, y.pc⟩ ds da dc) R3.out (by rfl) 51 _ _ (by rfl) (by rfl) (by rfl) rfl Try.infoRefView (by rw [← Array.all_toList]; rfl) ?_)
      intro w8 f8 b8
      have F8 := Lib.hid (fr_new F3.out f8 (show W.heap.size ≤ W.heap.size + 1 by omega))
      have R8 := Lib.hid b8
      have H8 := Lib.hid (H3.out.store f8 AP2.out HS.out.2.1 R3.out (by first | exact noU32_z | exact noU32_arr _ _ _ _ _))
      clear f8 b8
      have L8 : Hid ((loadVar 51 ⟨W.heap.size + 1, 0, none⟩).run Try.prog w8 = .ok (.agg (rwArr ⟨u.self, l', u.am, u.pas, u.pm⟩ ⟨a', c', y.pa, y.pc⟩ ds da dc)) w8) := Lib.hid (run_loadVar_mid w8 (W.heap.size + 1) 0 51 (Array.toList (rwArr ⟨u.self, l', u.am, u.pas, u.pm⟩ ⟨a', c', y.pa, y.pc⟩ ds da dc)) _ (blk_range R8.out) Try.underlying51 rfl Try.infoRefView)
      have A8 : Hid ((asAddr (.pointer (some ⟨W.heap.size + 1, 0, none⟩))).run Try.prog w8 = .ok ⟨W.heap.size + 1, 0, none⟩ w8) := Lib.hid (by simp [go_sem])
      go_wp2_with fail
      refine bodyPost_ret (v := .tuple #[.agg (rwArr ⟨u.self, l', u.am, u.pas, u.pm⟩ ⟨a', c', y.pa, y.pc⟩ ds da dc), .bool true]) (by simp [results, Try.results33, Sem.run_bind, Result.andThen_ok, L8.out, A8.out]) rfl ?_
      exact ⟨_, _, _, rfl, H8.out, KF.out.mono (by omega), DaOf.refl _, F8.out⟩
    case true =>
      have CK := Lib.hid (refKnow_any ⟨u.self, l', u.am, u.pas, u.pm⟩ ⟨a', c', y.pa, y.pc⟩ n ds da dc w3 H3.out hlp hpm HRG.out)
      unfold RwEnd at CK
      have hk := HKK.out
      simp only [↓reduceIte] at hk
      obtain ⟨u3, ds3⟩ : ∃ u3 : Vw × List Int, u3 = rKnow ⟨u.self, l', u.am, u.pas, u.pm⟩ n ds := ⟨_, rfl⟩
      rw [← ds3] at CK hk
      obtain ⟨u3, ds'⟩ := u3
      simp only at CK hk
      subst hk
      clear HKK ds3
      go_upto_region 5 with fail
      refine wp_region_lit ?_
      refine wpList_load_mid (by rfl) 51 _ (by rfl) W.heap.size 0 (by rfl) (Array.toList (rwArr ⟨u.self, l', u.am, u.pas, u.pm⟩ ⟨a', c', y.pa, y.pc⟩ ds da dc)) _ (blk_range V3.out) Try.underlying51 rfl Try.infoRefView ?_
      go_wp2_with fail
      refine CK.out.mono ?_
      rintro e w4 ⟨y3, da3, dc3, rfl, h4, k4, hda3, f4⟩
      have V4 := Lib.hid (blk_keep f4 V3.out (fun h => h))
      have R4 := Lib.hid (blk_keep f4 R3.out (fun h => h))
      have F4 := Lib.hid (Gr.trans F3.out f4)
      have H4 := Lib.hid h4
      have HDA3 := Lib.hid hda3
      clear hda3
      have KF4 := Lib.hid (KF.out.trans (by omega) k4)
      have AP4 := Lib.hid (AP2.out.next k4 (fun k hk => by have := HS.out.2.2 k hk; omega))
      clear f4 h4 k4 V3 R3 F3 H3 CK KF AP2
      go_wp2_with (refine wpList_storeW (vs := rwArr u3 y3 ds' da3 dc3) V4.out (by rfl) 51 _ _ (by rfl) (by rfl) (by rfl) rfl Try.infoRefView (by rw [← Array.all_toList]; rfl) ?_)
      intro w5 f5 b5
      have V5 := Lib.hid b5
      have R5 := Lib.hid (blk_keep f5 R4.out (by omega))
      have F5 := Lib.hid (fr_new F4.out f5 (Nat.le_refl _))
      have H5 := Lib.hid (H4.out.store f5 AP4.out HS.out.1 V4.out (noU32_arr _ _ _ _ _))
      clear f5 b5 V4 R4 F4 H4
      go_upto_region 6 with fail
      refine wp_region_lit ?_
      refine wpList_load_mid (by rfl) 51 _ (by rfl) W.heap.size 0 (by rfl) (Array.toList (rwArr u3 y3 ds' da3 dc3)) _ (blk_range V5.out) Try.underlying51 rfl Try.infoRefView ?_
      go_wp2_with (refine wpList_storeW (vs := rwArr u3 y3 ds' da3 dc3) R5.out (by rfl) 51 _ _ (by rfl) (by rfl) (by rfl) rfl Try.infoRefView (by rw [← Array.all_toList]; rfl) ?_)
      intro w8 f8 b8
      have F8 := Lib.hid (fr_new F5.out f8 (show W.heap.size ≤ W.heap.size + 1 by omega))
      have R8 := Lib.hid b8
      have H8 := Lib.hid (H5.out.store f8 AP4.out HS.out.2.1 R5.out (by first | exact noU32_z | exact noU32_arr _ _ _ _ _))
      clear f8 b8
      have L8 : Hid ((loadVar 51 ⟨W.heap.size + 1, 0, none⟩).run Try.prog w8 = .ok (.agg (rwArr u3 y3 ds' da3 dc3)) w8) := Lib.hid (run_loadVar_mid w8 (W.heap.size + 1) 0 51 (Array.toList (rwArr u3 y3 ds' da3 dc3)) _ (blk_range R8.out) Try.underlying51 rfl Try.infoRefView)
      have A8 : Hid ((asAddr (.pointer (some ⟨W.heap.size + 1, 0, none⟩))).run Try.prog w8 = .ok ⟨W.heap.size + 1, 0, none⟩ w8) := Lib.hid (by simp [go_sem])
      go_wp2_with fail
      refine bodyPost_ret (v := .tuple #[.agg (rwArr u3 y3 ds' da3 dc3), .bool true]) (by simp [results, Try.results33, Sem.run_bind, Result.andThen_ok, L8.out, A8.out]) rfl ?_
      exact ⟨_, _, _, rfl, H8.out, KF4.out.mono (by omega), HDA3.out, F8.out⟩

set_option maxHeartbeats 4000000 in
set_option maxRecDepth 100000 in
theorem refEvict_any (u : Vw) (y : VwP) (ds : List Int) (da : Option Addr) (dc : Nat) (W : World) (h : RwAt W u y ds da dc) (hla : u.act.length ≤ 100) (hlp : u.pas.length ≤ 100) (hpm : 0 ≤ u.pm) (hr : ∀ x ∈ ds, 0 ≤ x ∧ x < 4294967296) :
    Calls Try.prog 31 #[.agg (rwArr u y ds da dc)] W (RwEnd u y da (rEvict u ds).1 (rEvict u ds).2.2.2 (fun l => .tuple #[.agg l, .int .i64 (rEvict u ds).2.1, .bool (rEvict u ds).2.2.1]) W) := by
  obtain ⟨ir, hr1, hr2, hr3⟩ := info_pair Try.zeroRefView
  obtain ⟨w1, hw1⟩ : ∃ w1, w1 = (W.alloc (.cells (rwArr u y ds da dc) 51)).alloc (.cells rwZ 51) := ⟨_, rfl⟩
  have f1 : Gr W w1 := by rw [hw1]; exact ((Fr.refl _ _).alloc _).alloc _
  have V1 := Lib.hid (show w1.heap[W.heap.size]? = some (.cells (rwArr u y ds da dc) 51 (0, 0)) by rw [hw1, heap_alloc_if, if_neg (by simp), heap_alloc_if, if_pos rfl])
  have R1 := Lib.hid (show w1.heap[W.heap.size + 1]? = some (.cells rwZ 51 (0, 0)) by rw [hw1, heap_alloc_if, if_pos (by simp)])
  have s1 : W.heap.size + 1 < w1.heap.size := by rw [hw1]; simp
  have F1 := Lib.hid f1
  have HW1 := Lib.hid hw1
  have H1 := Lib.hid (h.gr f1)
  have e1 := h.act.le
  have e2 := h.act.max
  have e3 := h.pas.le
  have e4 := h.pas.max
  have e5 := h.dr.le
  have e6 := h.dr.max
  obtain ⟨S, hS⟩ : ∃ S : Nat → Prop, S = fun k => k = W.heap.size ∨ k = W.heap.size + 1 := ⟨_, rfl⟩
  have AP := Lib.hid (show VwApart S u y from h.new (fun k hk => by rw [hS] at hk; omega))
  have HS := Lib.hid (show S W.heap.size ∧ S (W.heap.size + 1) ∧ ∀ k, S k → k < w1.heap.size by rw [hS]; exact ⟨.inl rfl, .inr rfl, fun k hk => by omega⟩)
  clear hw1 f1 h hS
  obtain ⟨kk, hkk⟩ : ∃ kk, kk = rEvict u ds := ⟨_, rfl⟩
  unfold RwEnd
  rw [← hkk]
  unfold rEvict at hkk
  have HKK := Lib.hid hkk
  have HRG := Lib.hid hr
  have y1 := (Bx.of_block V1.out) 1 _ rfl
  clear hkk hr
  go_enter Try.func31, Try.ntmps31
  go_upto_region 1 with fail
  rw [← HW1.out]
  clear HW1
  by_cases he : u.act = []
  · have hk := HKK.out
    rw [if_pos he] at hk
    subst hk
    have hl0 : u.act.length = 0 := by rw [he]; rfl
    rw [hl0] at y1
    clear he hl0 HKK
    go_upto_region 2 with fail
    refine wp_region_lit ?_
    refine wpList_load_mid (by rfl) 51 _ (by rfl) W.heap.size 0 (by rfl) (Array.toList (rwArr u y ds da dc)) _ (blk_range V1.out) Try.underlying51 rfl Try.infoRefView ?_
    go_wp2_with (refine wpList_storeW (vs := rwArr u y ds da dc) R1.out (by rfl) 51 _ _ (by rfl) (by rfl) (by rfl) rfl Try.infoRefView (by rw [← Array.all_toList]; rfl) ?_)
    intro w8 f8 b8
    have F8 := Lib.hid (fr_new F1.out f8 (show W.heap.size ≤ W.heap.size + 1 by omega))
    have R8 := Lib.hid b8
    have H8 := Lib.hid (H1.out.store f8 AP.out HS.out.2.1 R1.out (by first | exact noU32_z | exact noU32_arr _ _ _ _ _))
    clear f8 b8
    have L8 : Hid ((loadVar 51 ⟨W.heap.size + 1, 0, none⟩).run Try.prog w8 = .ok (.agg (rwArr u y ds da dc)) w8) := Lib.hid (run_loadVar_mid w8 (W.heap.size + 1) 0 51 (Array.toList (rwArr u y ds da dc)) _ (blk_range R8.out) Try.underlying51 rfl Try.infoRefView)
    have A8 : Hid ((asAddr (.pointer (some ⟨W.heap.size + 1, 0, none⟩))).run Try.prog w8 = .ok ⟨W.heap.size + 1, 0, none⟩ w8) := Lib.hid (by simp [go_sem])
    go_wp2_with fail
    refine bodyPost_ret (v := .tuple #[.agg (rwArr u y ds da dc), .int .i64 0, .bool false]) (by simp [results, Try.results31, Sem.run_bind, Result.andThen_ok, L8.out, A8.out]) rfl ?_
    exact ⟨y, da, dc, rfl, H8.out, VwFrom.refl _ _ _, DaOf.refl _, F8.out⟩
  · have hk := HKK.out
    rw [if_neg he] at hk
    have CO := Lib.hid (refOne_any u y ds da dc y.aa y.ac u.act w1 H1.out H1.out.act he hla HRG.out)
    have hrg1 := oneV_range (l := srt u.act) HRG.out
    obtain ⟨o1, ob, ds1, ho⟩ : ∃ o1 ob od, oneV ds (srt u.act) = (o1, ob, od) := ⟨_, _, _, rfl⟩
    rw [ho] at CO hk hrg1
    simp only at CO hk hrg1
    have hlz : ((u.act.length : Int) == 0) = false := beq_eq_false_iff_ne.2 (by have := List.length_pos_iff.2 he; omega)
    obtain ⟨kl, hkl⟩ : ∃ kl, kl = rLeave u o1 true ds1 := ⟨_, rfl⟩
    have CL := Lib.hid (fun da2 dc2 w (hh : RwAt w u y ds1 da2 dc2) => refLeave_any u y o1 true ds1 da2 dc2 w hh hla hlp hpm hrg1)
    unfold RwEnd at CL
    rw [← hkl] at CL hk
    obtain ⟨u3, k3, ds'⟩ := kl
    simp only at CL hk
    subst hk
    clear he HKK ho hkl hrg1
    go_upto_region 3 with fail
    refine wp_region_lit ?_
    refine wpList_load_mid (by rfl) 51 _ (by rfl) W.heap.size 0 (by rfl) (Array.toList (rwArr u y ds da dc)) _ (blk_range V1.out) Try.underlying51 rfl Try.infoRefView ?_
    go_wp2_with fail
    refine CO.out.mono ?_
    rintro e w2 ⟨da2, dc2, rfl, h2, hda, f2⟩
    have HDA := Lib.hid hda
    clear hda
    have R2 := Lib.hid (blk_keep f2 R1.out (fun h => h))
    have F2 := Lib.hid (Gr.trans F1.out f2)
    have H2 := Lib.hid h2
    have hs2 := f2.size
    clear f2 h2 V1 R1 F1 H1 CO y1
    go_wp2_with (refine wpList_fresh (vs := rwArr u y ds1 da2 dc2) hr1 hr2 Try.infoRefView (by rfl) (by rw [← Array.all_toList]; rfl) (by rfl) (by rfl) ?_)
    intro w3 f3 bg3 lg3
    obtain ⟨g, hg⟩ : ∃ g, g = w2.heap.size := ⟨_, rfl⟩
    rw [← hg] at bg3 lg3 ⊢
    have APG := Lib.hid (show VwApart (fun k => k = g) u y from H2.out.new (fun k hk => by omega))
    have R3 := Lib.hid (blk_keep f3 R2.out (fun h => h))
    have F3 := Lib.hid (Gr.trans F2.out f3)
    have H3 := Lib.hid (H2.out.gr f3)
    have G3 := Lib.hid bg3
    have hs3 := f3.size
    have hg1 : W.heap.size + 1 < g := by omega
    clear f3 bg3 hg R2 F2 H2
    go_upto_region 4 with fail
    refine wp_region_lit ?_
    refine wpList_load_mid (by rfl) 51 _ (by rfl) g 0 (by rfl) (Array.toList (rwArr u y ds1 da2 dc2)) _ (blk_range G3.out) Try.underlying51 rfl Try.infoRefView ?_
    go_wp2_with fail
    refine (CL.out da2 dc2 w3 H3.out).mono ?_
    rintro e w4 ⟨y3, da3, dc3, rfl, h4, k4, hda3, f4⟩
    have G4 := Lib.hid (blk_keep f4 G3.out (fun h => h))
    have R4 := Lib.hid (blk_keep f4 R3.out (fun h => h))
    have F4 := Lib.hid (Gr.trans F3.out f4)
    have H4 := Lib.hid h4
    have HDA3 := Lib.hid (HDA.out.trans hda3)
    clear hda3
    have KF4 := Lib.hid (k4.mono (a := w1) (by omega))
    have AP4 := Lib.hid (AP.out.next k4 (fun k hk => by have := HS.out.2.2 k hk; omega))
    have APG4 := Lib.hid (APG.out.next k4 (fun k hk => by omega))
    clear f4 h4 k4 G3 R3 F3 H3 CL APG
    go_wp2_with (refine wpList_storeW (vs := rwArr u3 y3 ds' da3 dc3) G4.out (by rfl) 51 _ _ (by rfl) (by rfl) (by rfl) rfl Try.infoRefView (by rw [← Array.all_toList]; rfl) ?_)
    intro w5 f5 b5
    have G5 := Lib.hid b5
    have R5 := Lib.hid (blk_keep f5 R4.out (by omega))
    have F5 := Lib.hid (fr_new F4.out f5 (by omega))
    have H5 := Lib.hid (H4.out.store f5 APG4.out rfl G4.out (noU32_arr _ _ _ _ _))
    clear f5 b5 G4 R4 F4 H4 APG4
    go_upto_region 5 with fail
    refine wp_region_lit ?_
    refine wpList_load_mid (by rfl) 51 _ (by rfl) g 0 (by rfl) (Array.toList (rwArr u3 y3 ds' da3 dc3)) _ (blk_range G5.out) Try.underlying51 rfl Try.infoRefView ?_
    go_wp2_with (refine wpList_storeW (vs := rwArr u3 y3 ds' da3 dc3) R5.out (by rfl) 51 _ _ (by rfl) (by rfl) (by rfl) rfl Try.infoRefView (by rw [← Array.all_toList]; rfl) ?_)
    intro w8 f8 b8
    have F8 := Lib.hid (fr_new F5.out f8 (show W.heap.size ≤ W.heap.size + 1 by omega))
    have R8 := Lib.hid b8
    have H8 := Lib.hid (H5.out.store f8 AP4.out HS.out.2.1 R5.out (by first | exact noU32_z | exact noU32_arr _ _ _ _ _))
    clear f8 b8
    have L8 : Hid ((loadVar 51 ⟨W.heap.size + 1, 0, none⟩).run Try.prog w8 = .ok (.agg (rwArr u3 y3 ds' da3 dc3)) w8) := Lib.hid (run_loadVar_mid w8 (W.heap.size + 1) 0 51 (Array.toList (rwArr u3 y3 ds' da3 dc3)) _ (blk_range R8.out) Try.underlying51 rfl Try.infoRefView)
    have A8 : Hid ((asAddr (.pointer (some ⟨W.heap.size + 1, 0, none⟩))).run Try.prog w8 = .ok ⟨W.heap.size + 1, 0, none⟩ w8) := Lib.hid (by simp [go_sem])
    go_wp2_with fail
    refine bodyPost_ret (v := .tuple #[.agg (rwArr u3 y3 ds' da3 dc3), .int .i64 o1, .bool true]) (by simp [results, Try.results31, Sem.run_bind, Result.andThen_ok, L8.out, A8.out]) rfl ?_
    exact ⟨_, _, _, rfl, H8.out, KF4.out.mono (by omega), HDA3.out, F8.out⟩

end Go.Proofs.Ytdpnkikaciigoaa
