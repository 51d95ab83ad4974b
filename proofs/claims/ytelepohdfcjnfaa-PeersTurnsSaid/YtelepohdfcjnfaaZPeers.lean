/-
  Package peers: New, has, Down, Prune, Graft, Up (printed by gen_peers.py).
-/
import Derived.Test.YtelepohdfcjnfaaZSta
import Derived.Test.YtelepohdfcjnfaaZPeSpec
import Derived.Test.YtelepohdfcjnfaaZRegionW
namespace Go.Proofs.Ytelepohdfcjnfaa
open Go.RowKit Go.Proofs

/-- where peers' rows lie -/
structure PeP where
  ea : Option Addr
  ec : Nat
  za : Option Addr
  zc : Nat
abbrev Pe.arr (u : Pe) (x : PeP) : Array Value := #[.slice x.ea u.e.length x.ec, .int .i64 64, .slice x.za u.z.length x.zc, .int .i64 64]
abbrev prows (u : Pe) (x : PeP) (R : List Rw) : List Rw := ⟨x.ea, u.e.length, x.ec, ints u.e⟩ :: ⟨x.za, u.z.length, x.zc, ints u.z⟩ :: R
abbrev peZ : Array Value := #[.slice none 0 0, .int .i64 0, .slice none 0 0, .int .i64 0]
theorem Try.zeroPeers : (Try.prog.info? 74).map (fun i => (i.zero, i.size)) = some (some (.agg peZ), 4) := by kernel_rfl
theorem Try.infoPeers : (Try.prog.info? 74).map (·.size) = some 4 := by kernel_rfl
abbrev peNoP : PeP := ⟨none, 0, none, 0⟩
/-- what a call leaves that gives peers back -/
def PEnd (W : World) (O : Nat → Prop) (u' : Pe) (r : Array Value → Value) (e : Ending) (w' : World) : Prop :=
  ∃ x', e = .returned (r (u'.arr x')) ∧ Sta W O (.pointer none) [] [] [] (prows u' x' []) w'
theorem exec_bldPeers (ρ : Operand → Value) (w : World) (dst : Option Tmp) (ty : TypeId) (pos : String) (after : Array Edge) {x0 x1 : Operand} {c0 c1 d0 d1 : Value} (h0 : ρ x0 = .agg #[c0, c1]) (h1 : ρ x1 = .agg #[d0, d1]) :
    (execOp ρ ⟨dst, .build 74 #[(0, x0), (1, x1)], ty, pos, after, none⟩).run Try.prog w = .ok (.value (.agg #[c0, c1, d0, d1])) w := by simp [go_sem, h0, h1]
theorem wpList_bldPeers {ops : Array Oper} {rest : List Oper} {dst : Option Tmp} {ty : TypeId} {pos : String} {after : Array Edge} {A : Act} {w : World} {Q : Exit → Act → World → Prop} {x0 x1 : Operand} {c0 c1 d0 d1 : Value} (h0 : A.eval x0 = .agg #[c0, c1]) (h1 : A.eval x1 = .agg #[d0, d1])
    (h : wpList Try.prog ops Q rest (A.put dst (.agg #[c0, c1, d0, d1])) w) :
    wpList Try.prog ops Q (⟨dst, .build 74 #[(0, x0), (1, x1)], ty, pos, after, none⟩ :: rest) A w := by
  refine wpList_plain rfl fun K hK => ?_
  unfold Oper.wp
  rw [exec_bldPeers A.eval w dst ty pos after h0 h1]
  exact hK _ _ h

set_option maxHeartbeats 4000000 in
set_option maxRecDepth 100000 in
theorem peersNew_any (W : World) : Calls Try.prog 26 #[] W fun e w' => e = .returned (.agg (Pe.arr ⟨[], []⟩ peNoP)) ∧ Gr W w' := by
  obtain ⟨w1, hw1⟩ : ∃ w1, w1 = W.alloc (.cells peZ 74) := ⟨_, rfl⟩
  have F1 := Lib.hid (show Gr W w1 by rw [hw1]; exact (Fr.refl _ _).alloc _)
  have R1 := Lib.hid (show w1.heap[W.heap.size]? = some (.cells peZ 74 (0, 0)) by rw [hw1, heap_alloc_if, if_pos rfl])
  have HW1 := Lib.hid hw1
  have C2 := Lib.hid (fun w => setNew_any 64 w)
  rw [show min (max (64 : Int) 0) 64 = 64 from rfl] at C2
  clear hw1
  go_enter Try.func26, Try.ntmps26
  go_upto_region 1 with fail
  rw [← HW1.out]
  clear HW1
  go_wp2_with fail
  refine (C2.out _).mono ?_
  rintro e w2 ⟨rfl, f2⟩
  have F2 := Lib.hid (Gr.trans F1.out f2)
  have R2 := Lib.hid (blk_keep f2 R1.out (fun h => h))
  clear f2 F1 R1
  go_wp2_with fail
  refine (C2.out _).mono ?_
  rintro e w3 ⟨rfl, f3⟩
  have F3 := Lib.hid (Gr.trans F2.out f3)
  have R3 := Lib.hid (blk_keep f3 R2.out (fun h => h))
  clear f3 F2 R2 C2
  go_wp2_with (refine wpList_bldPeers (by rfl) (by rfl) ?_; refine wpList_storeW (vs := #[.slice none 0 0, .int .i64 64, .slice none 0 0, .int .i64 64]) R3.out (by rfl) 74 _ _ (by rfl) (by rfl) (by rfl) rfl Try.infoPeers (by rw [← Array.all_toList]; rfl) ?_)
  intro w4 f4 b4
  have F4 := Lib.hid (fr_new F3.out f4 (Nat.le_refl _))
  have R4 := Lib.hid b4
  clear f4 b4 R3 F3
  have LL : Hid ((loadVar 74 ⟨W.heap.size, 0, none⟩).run Try.prog w4 = .ok (.agg #[.slice none 0 0, .int .i64 64, .slice none 0 0, .int .i64 64]) w4) := Lib.hid (run_loadVar_mid w4 W.heap.size 0 74 (Array.toList #[.slice none 0 0, .int .i64 64, .slice none 0 0, .int .i64 64]) _ (blk_range R4.out) Try.underlying74 rfl Try.infoPeers)
  have LA : Hid ((asAddr (.pointer (some ⟨W.heap.size, 0, none⟩))).run Try.prog w4 = .ok ⟨W.heap.size, 0, none⟩ w4) := Lib.hid (by simp [go_sem])
  go_wp2_with fail
  refine bodyPost_ret (v := .agg #[.slice none 0 0, .int .i64 64, .slice none 0 0, .int .i64 64]) (by simp [results, Try.results26, Sem.run_bind, Result.andThen_ok, LL.out, LA.out]) rfl ?_
  exact ⟨rfl, F4.out⟩

set_option maxHeartbeats 4000000 in
set_option maxRecDepth 100000 in
theorem peersHas_any (u : Pe) (x : PeP) (n : Int) (W : World) (hE : SlA W x.ea u.e.length x.ec (ints u.e)) (hZ : SlA W x.za u.z.length x.zc (ints u.z)) (hg : u.Good) :
    Calls Try.prog 65 #[.agg (u.arr x), .int .i64 n] W fun e w' => e = .returned (.bool (peHas u n)) ∧ Gr W w' := by
  have HE := Lib.hid hE
  have HZ := Lib.hid hZ
  have HG := Lib.hid hg
  have CE := Lib.hid (fun w (h1 : SlA w x.ea u.e.length x.ec (ints u.e)) => setHas_any x.ea x.ec u.e 64 n w h1 HG.out.e)
  have CZ := Lib.hid (fun w (h1 : SlA w x.za u.z.length x.zc (ints u.z)) => setHas_any x.za x.zc u.z 64 n w h1 HG.out.z)
  obtain ⟨w1, hw1⟩ : ∃ w1, w1 = W.alloc (.cells (u.arr x) 74) := ⟨_, rfl⟩
  have F1 := Lib.hid (show Gr W w1 by rw [hw1]; exact (Fr.refl _ _).alloc _)
  have R1 := Lib.hid (show w1.heap[W.heap.size]? = some (.cells (u.arr x) 74 (0, 0)) by rw [hw1, heap_alloc_if, if_pos rfl])
  have HW1 := Lib.hid hw1
  clear hw1 hE hZ hg
  obtain ⟨q, hq⟩ : ∃ q, q = peHas u n := ⟨_, rfl⟩
  have HQ := Lib.hid hq
  rw [← hq]
  clear hq
  have y0 : w1.cell? ⟨W.heap.size, 0, none⟩ = some (.slice x.ea u.e.length x.ec) := (Bx.of_block R1.out) 0 _ rfl
  have y1 : w1.cell? ⟨W.heap.size, 1, none⟩ = some (.int .i64 64) := (Bx.of_block R1.out) 1 _ rfl
  go_enter Try.func65, Try.ntmps65
  go_upto_region 1 with fail
  rw [← HW1.out]
  clear HW1
  go_wp2_with fail
  refine (CE.out _ (HE.out.keep F1.out (fun _ _ h => h))).mono ?_
  rintro e w2 ⟨rfl, f2⟩
  have F2 := Lib.hid (Gr.trans F1.out f2)
  have z0 : w2.cell? ⟨W.heap.size, 2, none⟩ = some (.slice x.za u.z.length x.zc) := (Bx.of_block (blk_keep f2 R1.out (fun h => h))) 2 _ rfl
  have z1 : w2.cell? ⟨W.heap.size, 3, none⟩ = some (.int .i64 64) := (Bx.of_block (blk_keep f2 R1.out (fun h => h))) 3 _ rfl
  clear f2 y0 y1 F1 R1 CE
  cases e1 : has u.e n
  case true =>
    go_wp2_with fail
    go_ret
    exact ⟨by rw [HQ.out]; unfold peHas; rw [e1]; rfl, F2.out⟩
  case false =>
    go_wp2_with fail
    refine (CZ.out _ (HZ.out.keep F2.out (fun _ _ h => h))).mono ?_
    rintro e w3 ⟨rfl, f3⟩
    have F3 := Lib.hid (Gr.trans F2.out f3)
    clear f3 z0 z1 F2 CZ
    go_wp2_with fail
    go_ret
    exact ⟨by rw [HQ.out]; unfold peHas; rw [e1]; rfl, F3.out⟩

set_option maxHeartbeats 4000000 in
set_option maxRecDepth 100000 in
theorem peersDown_any (u : Pe) (x : PeP) (n : Int) (O : Nat → Prop) (W : World) (hs : Sta W O (.pointer none) [] [] [] (prows u x []) W) (hg : u.Good) :
    Calls Try.prog 27 #[.agg (u.arr x), .int .i64 n] W (PEnd W O (peDown u n) (fun a => .agg a)) := by
  have HG := Lib.hid hg
  clear hg
  unfold peDown
  have CE := Lib.hid (fun w (h1 : SlA w x.ea u.e.length x.ec (ints u.e)) => setDrop3_any x.ea x.ec u.e 64 n w h1 HG.out.e)
  have CZ := Lib.hid (fun w (h1 : SlA w x.za u.z.length x.zc (ints u.z)) => setDrop3_any x.za x.zc u.z 64 n w h1 HG.out.z)
  obtain ⟨w1, hw1⟩ : ∃ w1, w1 = (W.alloc (.cells (u.arr x) 74)).alloc (.cells peZ 74) := ⟨_, rfl⟩
  obtain ⟨b0, hb0⟩ : ∃ b, b = W.heap.size := ⟨_, rfl⟩
  obtain ⟨b1, hb1⟩ : ∃ b, b = W.heap.size + 1 := ⟨_, rfl⟩
  have ST1 := Lib.hid (show Sta W O (.pointer none) [] [⟨b1, peZ, 74⟩, ⟨b0, u.arr x, 74⟩] [] (prows u x []) w1 by rw [hw1]; exact (hs.box _ _ hb0).box _ _ (by rw [World.size_alloc]; exact hb1))
  have HW1 := Lib.hid hw1
  have HB0 := Lib.hid hb0
  have HB1 := Lib.hid hb1
  clear hw1 hb0 hb1 hs
  go_enter Try.func27, Try.ntmps27
  go_upto_region 1 with fail
  rw [← HW1.out, ← HB1.out, ← HB0.out]
  clear HW1 HB0 HB1
  have y5 : w1.cell? ⟨b0, 0, none⟩ = some (.slice x.ea u.e.length x.ec) := ST1.out.cell 1 0 rfl rfl
  have y6 : w1.cell? ⟨b0, 1, none⟩ = some (.int .i64 64) := ST1.out.cell 1 1 rfl rfl
  go_upto_region 1 with fail
  go_wp2_with fail
  refine (CE.out _ (ST1.out.rowAt 0 rfl)).mono ?_
  intro e w2 hst
  obtain ⟨ka, kc, rfl, hst2⟩ := ST1.out.callS (at_ 0 rfl) hst
  have ST2 := Lib.hid (show Sta W O (.pointer none) [] [⟨b1, peZ, 74⟩, ⟨b0, u.arr x, 74⟩] [] (⟨ka, (sDrop u.e n).length, kc, ints (sDrop u.e n)⟩ :: prows u x []) w2 from hst2)
  clear hst hst2 ST1 y5 y6 CE
  go_wp2_with (refine wpList_storeB (o := 0) (vs := #[.slice ka (sDrop u.e n).length kc, .int .i64 64]) (ST2.out.blkAt 1 rfl) (by rfl) 27 _ _ (by rfl) (by rfl) (by rfl) (Nat.le_of_ble_eq_true rfl) Try.infoSet2 (by rw [← Array.all_toList]; rfl) ?_)
  intro w3 f_ b_
  have ST3 := Lib.hid (show Sta W O (.pointer none) [] [⟨b1, peZ, 74⟩, ⟨b0, #[.slice ka (sDrop u.e n).length kc, .int .i64 64, .slice x.za u.z.length x.zc, .int .i64 64], 74⟩] [] (⟨ka, (sDrop u.e n).length, kc, ints (sDrop u.e n)⟩ :: prows u x []) w3 from ST2.out.store 1 rfl f_ b_)
  clear ST2 f_ b_
  have y5 : w3.cell? ⟨b0, 2, none⟩ = some (.slice x.za u.z.length x.zc) := ST3.out.cell 1 2 rfl rfl
  have y6 : w3.cell? ⟨b0, 3, none⟩ = some (.int .i64 64) := ST3.out.cell 1 3 rfl rfl
  go_upto_region 2 with fail
  go_wp2_with fail
  refine (CZ.out _ (ST3.out.rowAt 2 rfl)).mono ?_
  intro e w4 hst
  obtain ⟨la, lc, rfl, hst2⟩ := ST3.out.callS (at_ 2 rfl) hst
  have ST4 := Lib.hid (show Sta W O (.pointer none) [] [⟨b1, peZ, 74⟩, ⟨b0, #[.slice ka (sDrop u.e n).length kc, .int .i64 64, .slice x.za u.z.length x.zc, .int .i64 64], 74⟩] [] (⟨la, (sDrop u.z n).length, lc, ints (sDrop u.z n)⟩ :: ⟨ka, (sDrop u.e n).length, kc, ints (sDrop u.e n)⟩ :: prows u x []) w4 from hst2)
  clear hst hst2 ST3 y5 y6 CZ
  go_wp2_with (refine wpList_storeB (o := 2) (vs := #[.slice la (sDrop u.z n).length lc, .int .i64 64]) (ST4.out.blkAt 1 rfl) (by rfl) 27 _ _ (by rfl) (by rfl) (by rfl) (Nat.le_of_ble_eq_true rfl) Try.infoSet2 (by rw [← Array.all_toList]; rfl) ?_)
  intro w5 f_ b_
  have ST5 := Lib.hid (show Sta W O (.pointer none) [] [⟨b1, peZ, 74⟩, ⟨b0, #[.slice ka (sDrop u.e n).length kc, .int .i64 64, .slice la (sDrop u.z n).length lc, .int .i64 64], 74⟩] [] (⟨la, (sDrop u.z n).length, lc, ints (sDrop u.z n)⟩ :: ⟨ka, (sDrop u.e n).length, kc, ints (sDrop u.e n)⟩ :: prows u x []) w5 from ST4.out.store 1 rfl f_ b_)
  clear ST4 f_ b_
  go_upto_region 3 with fail
  refine wp_region_lit ?_
  refine wpList_load_mid (by rfl) 74 _ (by rfl) b0 0 (by rfl) (Array.toList (#[.slice ka (sDrop u.e n).length kc, .int .i64 64, .slice la (sDrop u.z n).length lc, .int .i64 64])) _ (blk_range (ST5.out.blkAt 1 rfl)) Try.underlying74 rfl Try.infoPeers ?_
  go_wp2_with (refine wpList_storeW (vs := #[.slice ka (sDrop u.e n).length kc, .int .i64 64, .slice la (sDrop u.z n).length lc, .int .i64 64]) (ST5.out.blkAt 0 rfl) (by rfl) 74 _ _ (by rfl) (by rfl) (by rfl) rfl Try.infoPeers (by rw [← Array.all_toList]; rfl) ?_)
  intro w6 f_ b_
  have ST6 := Lib.hid (show Sta W O (.pointer none) [] [⟨b1, #[.slice ka (sDrop u.e n).length kc, .int .i64 64, .slice la (sDrop u.z n).length lc, .int .i64 64], 74⟩, ⟨b0, #[.slice ka (sDrop u.e n).length kc, .int .i64 64, .slice la (sDrop u.z n).length lc, .int .i64 64], 74⟩] [] (⟨la, (sDrop u.z n).length, lc, ints (sDrop u.z n)⟩ :: ⟨ka, (sDrop u.e n).length, kc, ints (sDrop u.e n)⟩ :: prows u x []) w6 from ST5.out.store 0 rfl f_ b_)
  clear ST5 f_ b_
  have LL : Hid ((loadVar 74 ⟨b1, 0, none⟩).run Try.prog w6 = .ok (.agg (#[.slice ka (sDrop u.e n).length kc, .int .i64 64, .slice la (sDrop u.z n).length lc, .int .i64 64])) w6) := Lib.hid (run_loadVar_mid w6 b1 0 74 (Array.toList (#[.slice ka (sDrop u.e n).length kc, .int .i64 64, .slice la (sDrop u.z n).length lc, .int .i64 64])) _ (blk_range (ST6.out.blkAt 0 rfl)) Try.underlying74 rfl Try.infoPeers)
  have LA : Hid ((asAddr (.pointer (some ⟨b1, 0, none⟩))).run Try.prog w6 = .ok ⟨b1, 0, none⟩ w6) := Lib.hid (by simp [go_sem])
  go_wp2_with fail
  refine bodyPost_ret (v := .agg (#[.slice ka (sDrop u.e n).length kc, .int .i64 64, .slice la (sDrop u.z n).length lc, .int .i64 64])) (by simp [results, Try.results27, Sem.run_bind, Result.andThen_ok, LL.out, LA.out]) rfl ?_
  exact ⟨⟨ka, kc, la, lc⟩, rfl, ST6.out.out (List.Sublist.refl _) (inC (at_ 1 rfl) (inC (at_ 0 rfl) inN))⟩

set_option maxHeartbeats 4000000 in
set_option maxRecDepth 100000 in
theorem peersPrune_any (u : Pe) (x : PeP) (n : Int) (O : Nat → Prop) (W : World) (hs : Sta W O (.pointer none) [] [] [] (prows u x []) W) (hg : u.Good) :
    Calls Try.prog 29 #[.agg (u.arr x), .int .i64 n] W (PEnd W O (pePrune u n).1 (fun a => .tuple #[.agg a, .bool (pePrune u n).2])) := by
  have HG := Lib.hid hg
  clear hg
  obtain ⟨is, hs1, hs2, hs3⟩ := info_pair Try.zeroSet
  unfold pePrune
  obtain ⟨v, b, hv⟩ : ∃ v b, (if has u.e n = true then ((⟨sDrop u.e n, sAdd u.z 64 n⟩ : Pe), true) else (u, false)) = (v, b) := ⟨_, _, rfl⟩
  rw [hv]
  simp only
  have HV := Lib.hid hv
  clear hv
  have CE := Lib.hid (fun w (h1 : SlA w x.ea u.e.length x.ec (ints u.e)) => setDrop3_any x.ea x.ec u.e 64 n w h1 HG.out.e)
  have CZ := Lib.hid (fun w (h1 : SlA w x.za u.z.length x.zc (ints u.z)) => setAdd3_any x.za x.zc u.z 64 n w h1 HG.out.z)
  obtain ⟨w1, hw1⟩ : ∃ w1, w1 = (W.alloc (.cells (u.arr x) 74)).alloc (.cells peZ 74) := ⟨_, rfl⟩
  obtain ⟨b0, hb0⟩ : ∃ b, b = W.heap.size := ⟨_, rfl⟩
  obtain ⟨b1, hb1⟩ : ∃ b, b = W.heap.size + 1 := ⟨_, rfl⟩
  have ST1 := Lib.hid (show Sta W O (.pointer none) [] [⟨b1, peZ, 74⟩, ⟨b0, u.arr x, 74⟩] [] (prows u x []) w1 by rw [hw1]; exact (hs.box _ _ hb0).box _ _ (by rw [World.size_alloc]; exact hb1))
  have HW1 := Lib.hid hw1
  have HB0 := Lib.hid hb0
  have HB1 := Lib.hid hb1
  clear hw1 hb0 hb1 hs
  go_enter Try.func29, Try.ntmps29
  go_upto_region 1 with fail
  rw [← HW1.out, ← HB1.out, ← HB0.out]
  clear HW1 HB0 HB1
  have y5 : w1.cell? ⟨b0, 0, none⟩ = some (.slice x.ea u.e.length x.ec) := ST1.out.cell 1 0 rfl rfl
  have y6 : w1.cell? ⟨b0, 1, none⟩ = some (.int .i64 64) := ST1.out.cell 1 1 rfl rfl
  go_upto_region 1 with fail
  go_wp2_with fail
  refine (CE.out _ (ST1.out.rowAt 0 rfl)).mono ?_
  intro e w2 hst
  obtain ⟨ka, kc, rfl, hst2⟩ := ST1.out.callS (at_ 0 rfl) hst
  have ST2 := Lib.hid (show Sta W O (.pointer none) [] [⟨b1, peZ, 74⟩, ⟨b0, u.arr x, 74⟩] [] (⟨ka, (sDrop u.e n).length, kc, ints (sDrop u.e n)⟩ :: prows u x []) w2 from hst2)
  clear hst hst2 ST1 y5 y6 CE
  go_wp2_with (refine wpList_fresh (vs := #[.slice ka (sDrop u.e n).length kc, .int .i64 64]) hs1 hs2 Try.infoSet2 (by rfl) (by rw [← Array.all_toList]; rfl) (by rfl) (by rfl) ?_)
  intro w3 f_ b_ l_
  obtain ⟨z, hb_⟩ : ∃ b, b = w2.heap.size := ⟨_, rfl⟩
  rw [← hb_] at b_ l_ ⊢
  have ST3 := Lib.hid (show Sta W O (.pointer none) [] [⟨z, #[.slice ka (sDrop u.e n).length kc, .int .i64 64], 27⟩, ⟨b1, peZ, 74⟩, ⟨b0, u.arr x, 74⟩] [] (⟨ka, (sDrop u.e n).length, kc, ints (sDrop u.e n)⟩ :: prows u x []) w3 from ST2.out.var f_ b_ (Nat.le_of_eq hb_.symm))
  clear ST2 f_ b_ l_ hb_
  cases e1 : has u.e n
  case false =>
    obtain ⟨rfl, rfl⟩ : u = v ∧ false = b := by
      have hh := HV.out
      rw [e1, if_neg (by decide)] at hh
      injection hh with a b
      exact ⟨a, b⟩
    clear HV e1 CZ
    go_upto_region 3 with fail
    refine wp_region_lit ?_
    refine wpList_load_mid (by rfl) 74 _ (by rfl) b0 0 (by rfl) (Array.toList (u.arr x)) _ (blk_range (ST3.out.blkAt 2 rfl)) Try.underlying74 rfl Try.infoPeers ?_
    go_wp2_with (refine wpList_storeW (vs := u.arr x) (ST3.out.blkAt 1 rfl) (by rfl) 74 _ _ (by rfl) (by rfl) (by rfl) rfl Try.infoPeers (by rw [← Array.all_toList]; rfl) ?_)
    intro w4 f_ b_
    have ST4 := Lib.hid (show Sta W O (.pointer none) [] [⟨z, #[.slice ka (sDrop u.e n).length kc, .int .i64 64], 27⟩, ⟨b1, u.arr x, 74⟩, ⟨b0, u.arr x, 74⟩] [] (⟨ka, (sDrop u.e n).length, kc, ints (sDrop u.e n)⟩ :: prows u x []) w4 from ST3.out.store 1 rfl f_ b_)
    clear ST3 f_ b_
    have LL : Hid ((loadVar 74 ⟨b1, 0, none⟩).run Try.prog w4 = .ok (.agg (u.arr x)) w4) := Lib.hid (run_loadVar_mid w4 b1 0 74 (Array.toList (u.arr x)) _ (blk_range (ST4.out.blkAt 1 rfl)) Try.underlying74 rfl Try.infoPeers)
    have LA : Hid ((asAddr (.pointer (some ⟨b1, 0, none⟩))).run Try.prog w4 = .ok ⟨b1, 0, none⟩ w4) := Lib.hid (by simp [go_sem])
    go_wp2_with fail
    refine bodyPost_ret (v := .tuple #[.agg (u.arr x), .bool false]) (by simp [results, Try.results29, Sem.run_bind, Result.andThen_ok, LL.out, LA.out]) rfl ?_
    exact ⟨x, rfl, ST4.out.out (List.Sublist.refl _) (inC (at_ 1 rfl) (inC (at_ 2 rfl) inN))⟩
  case true =>
    obtain ⟨rfl, rfl⟩ : (⟨(sDrop u.e n), (sAdd u.z 64 n)⟩ : Pe) = v ∧ true = b := by
      have hh := HV.out
      rw [e1, if_pos rfl] at hh
      injection hh with a b
      exact ⟨a, b⟩
    clear HV e1
    go_upto_region 4 with fail
    have z0 : w3.cell? ⟨z, 0, none⟩ = some (.slice ka (sDrop u.e n).length kc) := ST3.out.cell 0 0 rfl rfl
    have z1 : w3.cell? ⟨z, 1, none⟩ = some (.int .i64 64) := ST3.out.cell 0 1 rfl rfl
    go_wp2_with (refine wpList_storeB (o := 0) (vs := #[.slice ka (sDrop u.e n).length kc, .int .i64 64]) (ST3.out.blkAt 2 rfl) (by rfl) 27 _ _ (by rfl) (by rfl) (by rfl) (Nat.le_of_ble_eq_true rfl) Try.infoSet2 (by rw [← Array.all_toList]; rfl) ?_)
    intro w4 f_ b_
    have ST4 := Lib.hid (show Sta W O (.pointer none) [] [⟨z, #[.slice ka (sDrop u.e n).length kc, .int .i64 64], 27⟩, ⟨b1, peZ, 74⟩, ⟨b0, #[.slice ka (sDrop u.e n).length kc, .int .i64 64, .slice x.za u.z.length x.zc, .int .i64 64], 74⟩] [] (⟨ka, (sDrop u.e n).length, kc, ints (sDrop u.e n)⟩ :: prows u x []) w4 from ST3.out.store 2 rfl f_ b_)
    clear ST3 f_ b_
    clear z0 z1
    have y5 : w4.cell? ⟨b0, 2, none⟩ = some (.slice x.za u.z.length x.zc) := ST4.out.cell 2 2 rfl rfl
    have y6 : w4.cell? ⟨b0, 3, none⟩ = some (.int .i64 64) := ST4.out.cell 2 3 rfl rfl
    go_upto_region 5 with fail
    go_wp2_with fail
    refine (CZ.out _ (ST4.out.rowAt 2 rfl)).mono ?_
    intro e w5 hst
    obtain ⟨la, lc, rfl, hst2⟩ := ST4.out.callS (at_ 2 rfl) hst
    have ST5 := Lib.hid (show Sta W O (.pointer none) [] [⟨z, #[.slice ka (sDrop u.e n).length kc, .int .i64 64], 27⟩, ⟨b1, peZ, 74⟩, ⟨b0, #[.slice ka (sDrop u.e n).length kc, .int .i64 64, .slice x.za u.z.length x.zc, .int .i64 64], 74⟩] [] (⟨la, (sAdd u.z 64 n).length, lc, ints (sAdd u.z 64 n)⟩ :: ⟨ka, (sDrop u.e n).length, kc, ints (sDrop u.e n)⟩ :: prows u x []) w5 from hst2)
    clear hst hst2 ST4 y5 y6 CZ
    go_wp2_with (refine wpList_storeB (o := 2) (vs := #[.slice la (sAdd u.z 64 n).length lc, .int .i64 64]) (ST5.out.blkAt 2 rfl) (by rfl) 27 _ _ (by rfl) (by rfl) (by rfl) (Nat.le_of_ble_eq_true rfl) Try.infoSet2 (by rw [← Array.all_toList]; rfl) ?_)
    intro w6 f_ b_
    have ST6 := Lib.hid (show Sta W O (.pointer none) [] [⟨z, #[.slice ka (sDrop u.e n).length kc, .int .i64 64], 27⟩, ⟨b1, peZ, 74⟩, ⟨b0, #[.slice ka (sDrop u.e n).length kc, .int .i64 64, .slice la (sAdd u.z 64 n).length lc, .int .i64 64], 74⟩] [] (⟨la, (sAdd u.z 64 n).length, lc, ints (sAdd u.z 64 n)⟩ :: ⟨ka, (sDrop u.e n).length, kc, ints (sDrop u.e n)⟩ :: prows u x []) w6 from ST5.out.store 2 rfl f_ b_)
    clear ST5 f_ b_
    go_upto_region 6 with fail
    refine wp_region_lit ?_
    refine wpList_load_mid (by rfl) 74 _ (by rfl) b0 0 (by rfl) (Array.toList (#[.slice ka (sDrop u.e n).length kc, .int .i64 64, .slice la (sAdd u.z 64 n).length lc, .int .i64 64])) _ (blk_range (ST6.out.blkAt 2 rfl)) Try.underlying74 rfl Try.infoPeers ?_
    go_wp2_with (refine wpList_storeW (vs := #[.slice ka (sDrop u.e n).length kc, .int .i64 64, .slice la (sAdd u.z 64 n).length lc, .int .i64 64]) (ST6.out.blkAt 1 rfl) (by rfl) 74 _ _ (by rfl) (by rfl) (by rfl) rfl Try.infoPeers (by rw [← Array.all_toList]; rfl) ?_)
    intro w7 f_ b_
    have ST7 := Lib.hid (show Sta W O (.pointer none) [] [⟨z, #[.slice ka (sDrop u.e n).length kc, .int .i64 64], 27⟩, ⟨b1, #[.slice ka (sDrop u.e n).length kc, .int .i64 64, .slice la (sAdd u.z 64 n).length lc, .int .i64 64], 74⟩, ⟨b0, #[.slice ka (sDrop u.e n).length kc, .int .i64 64, .slice la (sAdd u.z 64 n).length lc, .int .i64 64], 74⟩] [] (⟨la, (sAdd u.z 64 n).length, lc, ints (sAdd u.z 64 n)⟩ :: ⟨ka, (sDrop u.e n).length, kc, ints (sDrop u.e n)⟩ :: prows u x []) w7 from ST6.out.store 1 rfl f_ b_)
    clear ST6 f_ b_
    have LL : Hid ((loadVar 74 ⟨b1, 0, none⟩).run Try.prog w7 = .ok (.agg (#[.slice ka (sDrop u.e n).length kc, .int .i64 64, .slice la (sAdd u.z 64 n).length lc, .int .i64 64])) w7) := Lib.hid (run_loadVar_mid w7 b1 0 74 (Array.toList (#[.slice ka (sDrop u.e n).length kc, .int .i64 64, .slice la (sAdd u.z 64 n).length lc, .int .i64 64])) _ (blk_range (ST7.out.blkAt 1 rfl)) Try.underlying74 rfl Try.infoPeers)
    have LA : Hid ((asAddr (.pointer (some ⟨b1, 0, none⟩))).run Try.prog w7 = .ok ⟨b1, 0, none⟩ w7) := Lib.hid (by simp [go_sem])
    go_wp2_with fail
    refine bodyPost_ret (v := .tuple #[.agg (#[.slice ka (sDrop u.e n).length kc, .int .i64 64, .slice la (sAdd u.z 64 n).length lc, .int .i64 64]), .bool true]) (by simp [results, Try.results29, Sem.run_bind, Result.andThen_ok, LL.out, LA.out]) rfl ?_
    exact ⟨⟨ka, kc, la, lc⟩, rfl, ST7.out.out (List.Sublist.refl _) (inC (at_ 1 rfl) (inC (at_ 0 rfl) inN))⟩

set_option maxHeartbeats 4000000 in
set_option maxRecDepth 100000 in
theorem peersGraft_any (u : Pe) (x : PeP) (n : Int) (O : Nat → Prop) (W : World) (hs : Sta W O (.pointer none) [] [] [] (prows u x []) W) (hg : u.Good) :
    Calls Try.prog 31 #[.agg (u.arr x), .int .i64 n] W (PEnd W O (peGraft u n) (fun a => .tuple #[.agg a, .bool (has (peGraft u n).e n)])) := by
  have HG := Lib.hid hg
  clear hg
  obtain ⟨is, hs1, hs2, hs3⟩ := info_pair Try.zeroSet
  have HG2 := Lib.hid (HG.out.graft n)
  obtain ⟨v, hv⟩ : ∃ v, v = peGraft u n := ⟨_, rfl⟩
  rw [← hv] at HG2 ⊢
  have HV := Lib.hid hv
  clear hv
  have CZ := Lib.hid (fun w (h1 : SlA w x.za u.z.length x.zc (ints u.z)) => setDrop3_any x.za x.zc u.z 64 n w h1 HG.out.z)
  have CE := Lib.hid (fun w (h1 : SlA w x.ea u.e.length x.ec (ints u.e)) => setAdd3_any x.ea x.ec u.e 64 n w h1 HG.out.e)
  have CH := Lib.hid (fun y (yc : Nat) w (h1 : SlA w y v.e.length yc (ints v.e)) => setHas_any y yc v.e 64 n w h1 HG2.out.e)
  obtain ⟨w1, hw1⟩ : ∃ w1, w1 = (W.alloc (.cells (u.arr x) 74)).alloc (.cells peZ 74) := ⟨_, rfl⟩
  obtain ⟨b0, hb0⟩ : ∃ b, b = W.heap.size := ⟨_, rfl⟩
  obtain ⟨b1, hb1⟩ : ∃ b, b = W.heap.size + 1 := ⟨_, rfl⟩
  have ST1 := Lib.hid (show Sta W O (.pointer none) [] [⟨b1, peZ, 74⟩, ⟨b0, u.arr x, 74⟩] [] (prows u x []) w1 by rw [hw1]; exact (hs.box _ _ hb0).box _ _ (by rw [World.size_alloc]; exact hb1))
  have HW1 := Lib.hid hw1
  have HB0 := Lib.hid hb0
  have HB1 := Lib.hid hb1
  clear hw1 hb0 hb1 hs
  go_enter Try.func31, Try.ntmps31
  go_upto_region 1 with fail
  rw [← HW1.out, ← HB1.out, ← HB0.out]
  clear HW1 HB0 HB1
  have y5 : w1.cell? ⟨b0, 2, none⟩ = some (.slice x.za u.z.length x.zc) := ST1.out.cell 1 2 rfl rfl
  have y6 : w1.cell? ⟨b0, 3, none⟩ = some (.int .i64 64) := ST1.out.cell 1 3 rfl rfl
  go_upto_region 1 with fail
  go_wp2_with fail
  refine (CZ.out _ (ST1.out.rowAt 1 rfl)).mono ?_
  intro e w2 hst
  obtain ⟨la, lc, rfl, hst2⟩ := ST1.out.callS (at_ 1 rfl) hst
  have ST2 := Lib.hid (show Sta W O (.pointer none) [] [⟨b1, peZ, 74⟩, ⟨b0, u.arr x, 74⟩] [] (⟨la, (sDrop u.z n).length, lc, ints (sDrop u.z n)⟩ :: prows u x []) w2 from hst2)
  clear hst hst2 ST1 y5 y6 CZ
  go_wp2_with (refine wpList_fresh (vs := #[.slice la (sDrop u.z n).length lc, .int .i64 64]) hs1 hs2 Try.infoSet2 (by rfl) (by rw [← Array.all_toList]; rfl) (by rfl) (by rfl) ?_)
  intro w3 f_ b_ l_
  obtain ⟨z, hb_⟩ : ∃ b, b = w2.heap.size := ⟨_, rfl⟩
  rw [← hb_] at b_ l_ ⊢
  have ST3 := Lib.hid (show Sta W O (.pointer none) [] [⟨z, #[.slice la (sDrop u.z n).length lc, .int .i64 64], 27⟩, ⟨b1, peZ, 74⟩, ⟨b0, u.arr x, 74⟩] [] (⟨la, (sDrop u.z n).length, lc, ints (sDrop u.z n)⟩ :: prows u x []) w3 from ST2.out.var f_ b_ (Nat.le_of_eq hb_.symm))
  clear ST2 f_ b_ l_ hb_
  cases e1 : has u.z n
  case false =>
    obtain rfl : u = v := by rw [HV.out]; unfold peGraft; rw [e1, if_neg (by decide)]
    clear HV CE e1
    go_upto_region 5 with fail
    obtain ⟨wd, hwd⟩ : ∃ x, x = w3.drew := ⟨_, rfl⟩
    have HWD := Lib.hid hwd
    have ST4 := Lib.hid (show Sta W O (.pointer none) [] [⟨z, #[.slice la (sDrop u.z n).length lc, .int .i64 64], 27⟩, ⟨b1, peZ, 74⟩, ⟨b0, #[.slice x.ea u.e.length x.ec, .int .i64 64, .slice x.za u.z.length x.zc, .int .i64 64], 74⟩] [] (⟨la, (sDrop u.z n).length, lc, ints (sDrop u.z n)⟩ :: prows u x []) wd from hwd ▸ ST3.out.gr ((Fr.refl _ _).drew))
    clear ST3 hwd
    haveI : Nonempty (WC (fun w => w.heap[b0]? = some (.cells (#[.slice x.ea u.e.length x.ec, .int .i64 64, .slice x.za u.z.length x.zc, .int .i64 64]) 74 (0, 0)))) := ⟨⟨wd, ST4.out.blkAt 2 rfl⟩⟩
    have q5 : ∀ z : WC (fun w => w.heap[b0]? = some (.cells (#[.slice x.ea u.e.length x.ec, .int .i64 64, .slice x.za u.z.length x.zc, .int .i64 64]) 74 (0, 0))), z.val.cell? ⟨b0, 0, none⟩ = some (.slice x.ea u.e.length x.ec) := fun z => by rw [Lib.cell_of_heap z.ok]; rfl
    have q6 : ∀ z : WC (fun w => w.heap[b0]? = some (.cells (#[.slice x.ea u.e.length x.ec, .int .i64 64, .slice x.za u.z.length x.zc, .int .i64 64]) 74 (0, 0))), z.val.cell? ⟨b0, 1, none⟩ = some (.int .i64 64) := fun z => by rw [Lib.cell_of_heap z.ok]; rfl
    refine wp_region_plan [4, 5, 6] (Plan.seq [0, 1, 2, 3, 4, 5, 6] .done) (fun w' => ∃ z : WC (fun w => w.heap[b0]? = some (.cells (#[.slice x.ea u.e.length x.ec, .int .i64 64, .slice x.za u.z.length x.zc, .int .i64 64]) 74 (0, 0))), w' = z.val) (by kernel_rfl) (by kernel_rfl) (fun c a w d v h => by cases d <;> exact h) (fun c a w d v h => by cases d <;> exact h) (by rw [← HWD.out]; exact ⟨⟨wd, ST4.out.blkAt 2 rfl⟩, rfl⟩) ?_
    rw [← HWD.out]
    clear HWD
    refine wpV_q (by simp only [List.getElem?_toArray, List.getElem?_cons_zero] <;> rfl) (by rfl) (by rfl) ?_
    refine wpQuiet_loadH (by rfl) 74 _ (by rfl) b0 0 (by rfl) (Array.toList (#[.slice x.ea u.e.length x.ec, .int .i64 64, .slice x.za u.z.length x.zc, .int .i64 64])) _ (fun w ⟨z, hz⟩ => hz ▸ blk_range z.ok) Try.underlying74 rfl Try.infoPeers ?_
    refine wpQuiet_nil ?_
    simp only [Act.put, List.setIfInBounds_toArray, List.set_cons_succ, List.set_cons_zero]
    refine wpV_q (by simp only [List.getElem?_toArray, List.getElem?_cons_succ, List.getElem?_cons_zero] <;> rfl) (by rfl) (by rfl) ?_
    go_big_quiet_step (fail)
    refine wpQuiet_nil ?_
    refine wpV_q (by simp only [List.getElem?_toArray, List.getElem?_cons_succ, List.getElem?_cons_zero] <;> rfl) (by rfl) (by rfl) ?_
    go_big_quiet_step (fail)
    refine wpQuiet_nil ?_
    refine wpV_q (by simp only [List.getElem?_toArray, List.getElem?_cons_succ, List.getElem?_cons_zero] <;> rfl) (by rfl) (by rfl) ?_
    go_big_quiet_step (fail)
    refine wpQuiet_nil ?_
    refine wpV_e (by simp only [List.getElem?_toArray, List.getElem?_cons_succ, List.getElem?_cons_zero] <;> rfl) (by rfl) ?_
    go_wp2_with fail
    refine (CH.out _ _ _ (ST4.out.rowAt 1 rfl)).mono ?_
    rintro e w8 ⟨rfl, f_⟩
    have ST5 := Lib.hid (show Sta W O (.pointer none) [] [⟨z, #[.slice la (sDrop u.z n).length lc, .int .i64 64], 27⟩, ⟨b1, peZ, 74⟩, ⟨b0, #[.slice x.ea u.e.length x.ec, .int .i64 64, .slice x.za u.z.length x.zc, .int .i64 64], 74⟩] [] (⟨la, (sDrop u.z n).length, lc, ints (sDrop u.z n)⟩ :: prows u x []) w8 from ST4.out.gr f_)
    clear ST4 f_
    go_wp2_with fail
    refine ⟨⟨⟨w8, ST5.out.blkAt 2 rfl⟩, rfl⟩, ?_⟩
    refine wpV_e (by simp only [List.getElem?_toArray, List.getElem?_cons_succ, List.getElem?_cons_zero] <;> rfl) (by rfl) ?_
    refine wpList_storeW (vs := #[.slice x.ea u.e.length x.ec, .int .i64 64, .slice x.za u.z.length x.zc, .int .i64 64]) (ST5.out.blkAt 1 rfl) (by rfl) 74 _ _ (by rfl) (by rfl) (by rfl) rfl Try.infoPeers (by rw [← Array.all_toList]; rfl) ?_
    intro w9 f_ b_
    have ST6 := Lib.hid (show Sta W O (.pointer none) [] [⟨z, #[.slice la (sDrop u.z n).length lc, .int .i64 64], 27⟩, ⟨b1, #[.slice x.ea u.e.length x.ec, .int .i64 64, .slice x.za u.z.length x.zc, .int .i64 64], 74⟩, ⟨b0, #[.slice x.ea u.e.length x.ec, .int .i64 64, .slice x.za u.z.length x.zc, .int .i64 64], 74⟩] [] (⟨la, (sDrop u.z n).length, lc, ints (sDrop u.z n)⟩ :: prows u x []) w9 from ST5.out.store 1 rfl f_ b_)
    clear ST5 f_ b_
    refine wpList_nil ?_
    refine ⟨⟨⟨w9, ST6.out.blkAt 2 rfl⟩, rfl⟩, ?_⟩
    simp only [Act.put]
    refine wpV_e (by simp only [List.getElem?_toArray, List.getElem?_cons_succ, List.getElem?_cons_zero] <;> rfl) (by rfl) ?_
    go_wp2_with fail
    refine ⟨⟨⟨w9, ST6.out.blkAt 2 rfl⟩, rfl⟩, ?_⟩
    refine wpV_done ?_
    have LL : Hid ((loadVar 74 ⟨b1, 0, none⟩).run Try.prog w9 = .ok (.agg (#[.slice x.ea u.e.length x.ec, .int .i64 64, .slice x.za u.z.length x.zc, .int .i64 64])) w9) := Lib.hid (run_loadVar_mid w9 b1 0 74 (Array.toList (#[.slice x.ea u.e.length x.ec, .int .i64 64, .slice x.za u.z.length x.zc, .int .i64 64])) _ (blk_range (ST6.out.blkAt 1 rfl)) Try.underlying74 rfl Try.infoPeers)
    have LA : Hid ((asAddr (.pointer (some ⟨b1, 0, none⟩))).run Try.prog w9 = .ok ⟨b1, 0, none⟩ w9) := Lib.hid (by simp [go_sem])
    go_wp2_with fail
    refine bodyPost_ret (v := .tuple #[.agg (#[.slice x.ea u.e.length x.ec, .int .i64 64, .slice x.za u.z.length x.zc, .int .i64 64]), .bool (has u.e n)]) (by simp [results, Try.results31, Sem.run_bind, Result.andThen_ok, LL.out, LA.out]) rfl ?_
    exact ⟨⟨x.ea, x.ec, x.za, x.zc⟩, rfl, ST6.out.out (List.Sublist.refl _) (inC (at_ 1 rfl) (inC (at_ 2 rfl) inN))⟩
  case true =>
    go_upto_region 3 with fail
    have z0 : w3.cell? ⟨z, 0, none⟩ = some (.slice la (sDrop u.z n).length lc) := ST3.out.cell 0 0 rfl rfl
    have z1 : w3.cell? ⟨z, 1, none⟩ = some (.int .i64 64) := ST3.out.cell 0 1 rfl rfl
    go_wp2_with (refine wpList_storeB (o := 2) (vs := #[.slice la (sDrop u.z n).length lc, .int .i64 64]) (ST3.out.blkAt 2 rfl) (by rfl) 27 _ _ (by rfl) (by rfl) (by rfl) (Nat.le_of_ble_eq_true rfl) Try.infoSet2 (by rw [← Array.all_toList]; rfl) ?_)
    intro w4 f_ b_
    have ST4 := Lib.hid (show Sta W O (.pointer none) [] [⟨z, #[.slice la (sDrop u.z n).length lc, .int .i64 64], 27⟩, ⟨b1, peZ, 74⟩, ⟨b0, #[.slice x.ea u.e.length x.ec, .int .i64 64, .slice la (sDrop u.z n).length lc, .int .i64 64], 74⟩] [] (⟨la, (sDrop u.z n).length, lc, ints (sDrop u.z n)⟩ :: prows u x []) w4 from ST3.out.store 2 rfl f_ b_)
    clear ST3 f_ b_
    clear z0 z1
    have y5 : w4.cell? ⟨b0, 0, none⟩ = some (.slice x.ea u.e.length x.ec) := ST4.out.cell 2 0 rfl rfl
    have y6 : w4.cell? ⟨b0, 1, none⟩ = some (.int .i64 64) := ST4.out.cell 2 1 rfl rfl
    go_upto_region 4 with fail
    go_wp2_with fail
    refine (CE.out _ (ST4.out.rowAt 1 rfl)).mono ?_
    intro e w5 hst
    obtain ⟨ka, kc, rfl, hst2⟩ := ST4.out.callS (at_ 1 rfl) hst
    have ST5 := Lib.hid (show Sta W O (.pointer none) [] [⟨z, #[.slice la (sDrop u.z n).length lc, .int .i64 64], 27⟩, ⟨b1, peZ, 74⟩, ⟨b0, #[.slice x.ea u.e.length x.ec, .int .i64 64, .slice la (sDrop u.z n).length lc, .int .i64 64], 74⟩] [] (⟨ka, (sAdd u.e 64 n).length, kc, ints (sAdd u.e 64 n)⟩ :: ⟨la, (sDrop u.z n).length, lc, ints (sDrop u.z n)⟩ :: prows u x []) w5 from hst2)
    clear hst hst2 ST4 y5 y6 CE
    go_wp2_with (refine wpList_storeB (o := 0) (vs := #[.slice ka (sAdd u.e 64 n).length kc, .int .i64 64]) (ST5.out.blkAt 2 rfl) (by rfl) 27 _ _ (by rfl) (by rfl) (by rfl) (Nat.le_of_ble_eq_true rfl) Try.infoSet2 (by rw [← Array.all_toList]; rfl) ?_)
    intro w6 f_ b_
    have ST6 := Lib.hid (show Sta W O (.pointer none) [] [⟨z, #[.slice la (sDrop u.z n).length lc, .int .i64 64], 27⟩, ⟨b1, peZ, 74⟩, ⟨b0, #[.slice ka (sAdd u.e 64 n).length kc, .int .i64 64, .slice la (sDrop u.z n).length lc, .int .i64 64], 74⟩] [] (⟨ka, (sAdd u.e 64 n).length, kc, ints (sAdd u.e 64 n)⟩ :: ⟨la, (sDrop u.z n).length, lc, ints (sDrop u.z n)⟩ :: prows u x []) w6 from ST5.out.store 2 rfl f_ b_)
    clear ST5 f_ b_
    obtain rfl : v = ⟨(sAdd u.e 64 n), (sDrop u.z n)⟩ := by rw [HV.out]; unfold peGraft; rw [e1, if_pos rfl]
    clear HV e1
    go_upto_region 5 with fail
    obtain ⟨wd, hwd⟩ : ∃ x, x = w6.drew := ⟨_, rfl⟩
    have HWD := Lib.hid hwd
    have ST7 := Lib.hid (show Sta W O (.pointer none) [] [⟨z, #[.slice la (sDrop u.z n).length lc, .int .i64 64], 27⟩, ⟨b1, peZ, 74⟩, ⟨b0, #[.slice ka (sAdd u.e 64 n).length kc, .int .i64 64, .slice la (sDrop u.z n).length lc, .int .i64 64], 74⟩] [] (⟨ka, (sAdd u.e 64 n).length, kc, ints (sAdd u.e 64 n)⟩ :: ⟨la, (sDrop u.z n).length, lc, ints (sDrop u.z n)⟩ :: prows u x []) wd from hwd ▸ ST6.out.gr ((Fr.refl _ _).drew))
    clear ST6 hwd
    haveI : Nonempty (WC (fun w => w.heap[b0]? = some (.cells (#[.slice ka (sAdd u.e 64 n).length kc, .int .i64 64, .slice la (sDrop u.z n).length lc, .int .i64 64]) 74 (0, 0)))) := ⟨⟨wd, ST7.out.blkAt 2 rfl⟩⟩
    have q5 : ∀ z : WC (fun w => w.heap[b0]? = some (.cells (#[.slice ka (sAdd u.e 64 n).length kc, .int .i64 64, .slice la (sDrop u.z n).length lc, .int .i64 64]) 74 (0, 0))), z.val.cell? ⟨b0, 0, none⟩ = some (.slice ka (sAdd u.e 64 n).length kc) := fun z => by rw [Lib.cell_of_heap z.ok]; rfl
    have q6 : ∀ z : WC (fun w => w.heap[b0]? = some (.cells (#[.slice ka (sAdd u.e 64 n).length kc, .int .i64 64, .slice la (sDrop u.z n).length lc, .int .i64 64]) 74 (0, 0))), z.val.cell? ⟨b0, 1, none⟩ = some (.int .i64 64) := fun z => by rw [Lib.cell_of_heap z.ok]; rfl
    refine wp_region_plan [4, 5, 6] (Plan.seq [0, 1, 2, 3, 4, 5, 6] .done) (fun w' => ∃ z : WC (fun w => w.heap[b0]? = some (.cells (#[.slice ka (sAdd u.e 64 n).length kc, .int .i64 64, .slice la (sDrop u.z n).length lc, .int .i64 64]) 74 (0, 0))), w' = z.val) (by kernel_rfl) (by kernel_rfl) (fun c a w d v h => by cases d <;> exact h) (fun c a w d v h => by cases d <;> exact h) (by rw [← HWD.out]; exact ⟨⟨wd, ST7.out.blkAt 2 rfl⟩, rfl⟩) ?_
    rw [← HWD.out]
    clear HWD
    refine wpV_q (by simp only [List.getElem?_toArray, List.getElem?_cons_zero] <;> rfl) (by rfl) (by rfl) ?_
    refine wpQuiet_loadH (by rfl) 74 _ (by rfl) b0 0 (by rfl) (Array.toList (#[.slice ka (sAdd u.e 64 n).length kc, .int .i64 64, .slice la (sDrop u.z n).length lc, .int .i64 64])) _ (fun w ⟨z, hz⟩ => hz ▸ blk_range z.ok) Try.underlying74 rfl Try.infoPeers ?_
    refine wpQuiet_nil ?_
    simp only [Act.put, List.setIfInBounds_toArray, List.set_cons_succ, List.set_cons_zero]
    refine wpV_q (by simp only [List.getElem?_toArray, List.getElem?_cons_succ, List.getElem?_cons_zero] <;> rfl) (by rfl) (by rfl) ?_
    go_big_quiet_step (fail)
    refine wpQuiet_nil ?_
    refine wpV_q (by simp only [List.getElem?_toArray, List.getElem?_cons_succ, List.getElem?_cons_zero] <;> rfl) (by rfl) (by rfl) ?_
    go_big_quiet_step (fail)
    refine wpQuiet_nil ?_
    refine wpV_q (by simp only [List.getElem?_toArray, List.getElem?_cons_succ, List.getElem?_cons_zero] <;> rfl) (by rfl) (by rfl) ?_
    go_big_quiet_step (fail)
    refine wpQuiet_nil ?_
    refine wpV_e (by simp only [List.getElem?_toArray, List.getElem?_cons_succ, List.getElem?_cons_zero] <;> rfl) (by rfl) ?_
    go_wp2_with fail
    refine (CH.out _ _ _ (ST7.out.rowAt 0 rfl)).mono ?_
    rintro e w8 ⟨rfl, f_⟩
    have ST8 := Lib.hid (show Sta W O (.pointer none) [] [⟨z, #[.slice la (sDrop u.z n).length lc, .int .i64 64], 27⟩, ⟨b1, peZ, 74⟩, ⟨b0, #[.slice ka (sAdd u.e 64 n).length kc, .int .i64 64, .slice la (sDrop u.z n).length lc, .int .i64 64], 74⟩] [] (⟨ka, (sAdd u.e 64 n).length, kc, ints (sAdd u.e 64 n)⟩ :: ⟨la, (sDrop u.z n).length, lc, ints (sDrop u.z n)⟩ :: prows u x []) w8 from ST7.out.gr f_)
    clear ST7 f_
    go_wp2_with fail
    refine ⟨⟨⟨w8, ST8.out.blkAt 2 rfl⟩, rfl⟩, ?_⟩
    refine wpV_e (by simp only [List.getElem?_toArray, List.getElem?_cons_succ, List.getElem?_cons_zero] <;> rfl) (by rfl) ?_
    refine wpList_storeW (vs := #[.slice ka (sAdd u.e 64 n).length kc, .int .i64 64, .slice la (sDrop u.z n).length lc, .int .i64 64]) (ST8.out.blkAt 1 rfl) (by rfl) 74 _ _ (by rfl) (by rfl) (by rfl) rfl Try.infoPeers (by rw [← Array.all_toList]; rfl) ?_
    intro w9 f_ b_
    have ST9 := Lib.hid (show Sta W O (.pointer none) [] [⟨z, #[.slice la (sDrop u.z n).length lc, .int .i64 64], 27⟩, ⟨b1, #[.slice ka (sAdd u.e 64 n).length kc, .int .i64 64, .slice la (sDrop u.z n).length lc, .int .i64 64], 74⟩, ⟨b0, #[.slice ka (sAdd u.e 64 n).length kc, .int .i64 64, .slice la (sDrop u.z n).length lc, .int .i64 64], 74⟩] [] (⟨ka, (sAdd u.e 64 n).length, kc, ints (sAdd u.e 64 n)⟩ :: ⟨la, (sDrop u.z n).length, lc, ints (sDrop u.z n)⟩ :: prows u x []) w9 from ST8.out.store 1 rfl f_ b_)
    clear ST8 f_ b_
    refine wpList_nil ?_
    refine ⟨⟨⟨w9, ST9.out.blkAt 2 rfl⟩, rfl⟩, ?_⟩
    simp only [Act.put]
    refine wpV_e (by simp only [List.getElem?_toArray, List.getElem?_cons_succ, List.getElem?_cons_zero] <;> rfl) (by rfl) ?_
    go_wp2_with fail
    refine ⟨⟨⟨w9, ST9.out.blkAt 2 rfl⟩, rfl⟩, ?_⟩
    refine wpV_done ?_
    have LL : Hid ((loadVar 74 ⟨b1, 0, none⟩).run Try.prog w9 = .ok (.agg (#[.slice ka (sAdd u.e 64 n).length kc, .int .i64 64, .slice la (sDrop u.z n).length lc, .int .i64 64])) w9) := Lib.hid (run_loadVar_mid w9 b1 0 74 (Array.toList (#[.slice ka (sAdd u.e 64 n).length kc, .int .i64 64, .slice la (sDrop u.z n).length lc, .int .i64 64])) _ (blk_range (ST9.out.blkAt 1 rfl)) Try.underlying74 rfl Try.infoPeers)
    have LA : Hid ((asAddr (.pointer (some ⟨b1, 0, none⟩))).run Try.prog w9 = .ok ⟨b1, 0, none⟩ w9) := Lib.hid (by simp [go_sem])
    go_wp2_with fail
    refine bodyPost_ret (v := .tuple #[.agg (#[.slice ka (sAdd u.e 64 n).length kc, .int .i64 64, .slice la (sDrop u.z n).length lc, .int .i64 64]), .bool (has (sAdd u.e 64 n) n)]) (by simp [results, Try.results31, Sem.run_bind, Result.andThen_ok, LL.out, LA.out]) rfl ?_
    exact ⟨⟨ka, kc, la, lc⟩, rfl, ST9.out.out (List.Sublist.refl _) (inC (at_ 0 rfl) (inC (at_ 1 rfl) inN))⟩

set_option maxHeartbeats 4000000 in
set_option maxRecDepth 100000 in
theorem peersUp_any (u : Pe) (x : PeP) (n : Int) (O : Nat → Prop) (W : World) (hs : Sta W O (.pointer none) [] [] [] (prows u x []) W) (hg : u.Good) :
    Calls Try.prog 33 #[.agg (u.arr x), .int .i64 n] W (PEnd W O (peUp u n) (fun a => .agg a)) := by
  have HG := Lib.hid hg
  clear hg
  have l1 := HG.out.e.len
  have l2 := HG.out.z.len
  have CE := Lib.hid (fun w (h1 : SlA w x.ea u.e.length x.ec (ints u.e)) => setAdd3_any x.ea x.ec u.e 64 n w h1 HG.out.e)
  have CH := Lib.hid (fun w (h1 : SlA w x.ea u.e.length x.ec (ints u.e)) (h2 : SlA w x.za u.z.length x.zc (ints u.z)) => peersHas_any u x n w h1 h2 HG.out)
  have CL := Lib.hid (fun w => setLen_any x.ea u.e.length x.ec 64 w)
  have CM := Lib.hid (fun w => setLen_any x.za u.z.length x.zc 64 w)
  obtain ⟨c, hc⟩ : ∃ c, c = peHas u n := ⟨_, rfl⟩
  rw [← hc] at CH
  have HC := Lib.hid hc
  clear hc
  obtain ⟨v, hv⟩ : ∃ v, v = peUp u n := ⟨_, rfl⟩
  rw [← hv]
  have HV := Lib.hid hv
  clear hv
  obtain ⟨w1, hw1⟩ : ∃ w1, w1 = (W.alloc (.cells (u.arr x) 74)).alloc (.cells peZ 74) := ⟨_, rfl⟩
  obtain ⟨b0, hb0⟩ : ∃ b, b = W.heap.size := ⟨_, rfl⟩
  obtain ⟨b1, hb1⟩ : ∃ b, b = W.heap.size + 1 := ⟨_, rfl⟩
  have ST1 := Lib.hid (show Sta W O (.pointer none) [] [⟨b1, peZ, 74⟩, ⟨b0, u.arr x, 74⟩] [] (prows u x []) w1 by rw [hw1]; exact (hs.box _ _ hb0).box _ _ (by rw [World.size_alloc]; exact hb1))
  have HW1 := Lib.hid hw1
  have HB0 := Lib.hid hb0
  have HB1 := Lib.hid hb1
  clear hw1 hb0 hb1 hs
  go_enter Try.func33, Try.ntmps33
  go_upto_region 1 with fail
  rw [← HW1.out, ← HB1.out, ← HB0.out]
  clear HW1 HB0 HB1
  cases c
  case true =>
    haveI : Nonempty (WC (Gr w1)) := ⟨⟨w1, Fr.refl _ _⟩⟩
    have y0 : ∀ z2 : WC (Gr w1), z2.val.cell? ⟨b0, 0, none⟩ = some (.slice x.ea u.e.length x.ec) := fun z2 => z2.ok.cell (ST1.out.cell 1 0 rfl rfl) (fun h => h)
    have y1 : ∀ z2 : WC (Gr w1), z2.val.cell? ⟨b0, 1, none⟩ = some (.int .i64 64) := fun z2 => z2.ok.cell (ST1.out.cell 1 1 rfl rfl) (fun h => h)
    have y2 : ∀ z2 : WC (Gr w1), z2.val.cell? ⟨b0, 2, none⟩ = some (.slice x.za u.z.length x.zc) := fun z2 => z2.ok.cell (ST1.out.cell 1 2 rfl rfl) (fun h => h)
    have y3 : ∀ z2 : WC (Gr w1), z2.val.cell? ⟨b0, 3, none⟩ = some (.int .i64 64) := fun z2 => z2.ok.cell (ST1.out.cell 1 3 rfl rfl) (fun h => h)
    refine wp_region_plan [2, 6, 9] (Plan.seq [0, 1, 2, 3, 4, 5, 6, 7, 8, 9, 10, 11, 12] .done) (fun w' => ∃ z' : WC (Gr w1), w' = z'.val) (by kernel_rfl) (by kernel_rfl) (fun c a w d v h => by cases d <;> exact h) (fun c a w d v h => by cases d <;> exact h) ⟨⟨w1.drew, (Fr.refl _ _).drew⟩, rfl⟩ ?_
    simp only [Plan.seq, List.foldr]
    refine wpV_q (by simp only [List.getElem?_toArray, List.getElem?_cons_zero] <;> rfl) (by rfl) (by rfl) ?_
    go_big_quiet_step (fail)
    refine wpQuiet_nil ?_
    repeat (refine wpV_q (by simp only [List.getElem?_toArray, List.getElem?_cons_succ, List.getElem?_cons_zero] <;> rfl) (by rfl) (by rfl) ?_; go_big_quiet_step (fail); refine wpQuiet_nil ?_)
    refine wpV_e (by simp only [List.getElem?_toArray, List.getElem?_cons_succ, List.getElem?_cons_zero] <;> rfl) (by rfl) ?_
    go_wp2_with fail
    refine (CH.out _ ((ST1.out.gr (show Gr w1 w1.drew from (Fr.refl _ _).drew)).rowAt 0 rfl) ((ST1.out.gr (show Gr w1 w1.drew from (Fr.refl _ _).drew)).rowAt 1 rfl)).mono ?_
    rintro e w2 ⟨rfl, f2⟩
    have Fw2 : Gr w1 w2 := Gr.trans (show Gr w1 w1.drew from (Fr.refl _ _).drew) f2
    go_wp2_with fail
    refine ⟨⟨⟨w2, Fw2⟩, rfl⟩, ?_⟩
    repeat (refine wpV_q (by simp only [List.getElem?_toArray, List.getElem?_cons_succ, List.getElem?_cons_zero] <;> rfl) (by rfl) (by rfl) ?_; go_big_quiet_step (fail); refine wpQuiet_nil ?_)
    refine wpV_e (by simp only [List.getElem?_toArray, List.getElem?_cons_succ, List.getElem?_cons_zero] <;> rfl) (by rfl) ?_
    go_wp2_with fail
    refine ⟨⟨⟨w2, Fw2⟩, rfl⟩, ?_⟩
    repeat (refine wpV_q (by simp only [List.getElem?_toArray, List.getElem?_cons_succ, List.getElem?_cons_zero] <;> rfl) (by rfl) (by rfl) ?_; go_big_quiet_step (fail); refine wpQuiet_nil ?_)
    refine wpV_e (by simp only [List.getElem?_toArray, List.getElem?_cons_succ, List.getElem?_cons_zero] <;> rfl) (by rfl) ?_
    go_wp2_with fail
    refine ⟨⟨⟨w2, Fw2⟩, rfl⟩, ?_⟩
    repeat (refine wpV_q (by simp only [List.getElem?_toArray, List.getElem?_cons_succ, List.getElem?_cons_zero] <;> rfl) (by rfl) (by rfl) ?_; go_big_quiet_step (fail); refine wpQuiet_nil ?_)
    clear f2
    refine wpV_done ?_
    have FZ := Lib.hid Fw2
    clear this y0 y1 y2 y3
    have FZ2 := FZ.out
    clear FZ CE CH CL CM Fw2
    have ST2 := Lib.hid (show Sta W O (.pointer none) [] [⟨b1, peZ, 74⟩, ⟨b0, u.arr x, 74⟩] [] (prows u x []) w2 from ST1.out.gr FZ2)
    clear ST1 FZ2
    obtain rfl : u = v := by rw [HV.out]; unfold peUp peUpNo; rw [← HC.out]; rfl
    clear HV HC
    go_upto_region 2 with fail
    refine wp_region_lit ?_
    refine wpList_load_mid (by rfl) 74 _ (by rfl) b0 0 (by rfl) (Array.toList (u.arr x)) _ (blk_range (ST2.out.blkAt 1 rfl)) Try.underlying74 rfl Try.infoPeers ?_
    go_wp2_with (refine wpList_storeW (vs := u.arr x) (ST2.out.blkAt 0 rfl) (by rfl) 74 _ _ (by rfl) (by rfl) (by rfl) rfl Try.infoPeers (by rw [← Array.all_toList]; rfl) ?_)
    intro w9 f_ b_
    have ST3 := Lib.hid (show Sta W O (.pointer none) [] [⟨b1, u.arr x, 74⟩, ⟨b0, u.arr x, 74⟩] [] (prows u x []) w9 from ST2.out.store 0 rfl f_ b_)
    clear ST2 f_ b_
    have LL : Hid ((loadVar 74 ⟨b1, 0, none⟩).run Try.prog w9 = .ok (.agg (u.arr x)) w9) := Lib.hid (run_loadVar_mid w9 b1 0 74 (Array.toList (u.arr x)) _ (blk_range (ST3.out.blkAt 0 rfl)) Try.underlying74 rfl Try.infoPeers)
    have LA : Hid ((asAddr (.pointer (some ⟨b1, 0, none⟩))).run Try.prog w9 = .ok ⟨b1, 0, none⟩ w9) := Lib.hid (by simp [go_sem])
    go_wp2_with fail
    refine bodyPost_ret (v := .agg (u.arr x)) (by simp [results, Try.results33, Sem.run_bind, Result.andThen_ok, LL.out, LA.out]) rfl ?_
    exact ⟨x, rfl, ST3.out.out (List.Sublist.refl _) (inC (at_ 0 rfl) (inC (at_ 1 rfl) inN))⟩
  case false =>
    obtain ⟨N, hN⟩ : ∃ N : Nat, u.e.length + u.z.length = N := ⟨_, rfl⟩
    have HN := Lib.hid hN
    have hs : (u.e.length : Int) + (u.z.length : Int) = (N : Int) := by omega
    clear hN
    by_cases h64 : 64 ≤ N
    · have d1 : decide ((64 : Int) ≤ (N : Int)) = true := decide_eq_true (by omega)
      haveI : Nonempty (WC (Gr w1)) := ⟨⟨w1, Fr.refl _ _⟩⟩
      have y0 : ∀ z2 : WC (Gr w1), z2.val.cell? ⟨b0, 0, none⟩ = some (.slice x.ea u.e.length x.ec) := fun z2 => z2.ok.cell (ST1.out.cell 1 0 rfl rfl) (fun h => h)
      have y1 : ∀ z2 : WC (Gr w1), z2.val.cell? ⟨b0, 1, none⟩ = some (.int .i64 64) := fun z2 => z2.ok.cell (ST1.out.cell 1 1 rfl rfl) (fun h => h)
      have y2 : ∀ z2 : WC (Gr w1), z2.val.cell? ⟨b0, 2, none⟩ = some (.slice x.za u.z.length x.zc) := fun z2 => z2.ok.cell (ST1.out.cell 1 2 rfl rfl) (fun h => h)
      have y3 : ∀ z2 : WC (Gr w1), z2.val.cell? ⟨b0, 3, none⟩ = some (.int .i64 64) := fun z2 => z2.ok.cell (ST1.out.cell 1 3 rfl rfl) (fun h => h)
      refine wp_region_plan [2, 6, 9] (Plan.seq [0, 1, 2, 3, 4, 5, 6, 7, 8, 9, 10, 11, 12] .done) (fun w' => ∃ z' : WC (Gr w1), w' = z'.val) (by kernel_rfl) (by kernel_rfl) (fun c a w d v h => by cases d <;> exact h) (fun c a w d v h => by cases d <;> exact h) ⟨⟨w1.drew, (Fr.refl _ _).drew⟩, rfl⟩ ?_
      simp only [Plan.seq, List.foldr]
      refine wpV_q (by simp only [List.getElem?_toArray, List.getElem?_cons_zero] <;> rfl) (by rfl) (by rfl) ?_
      go_big_quiet_step (fail)
      refine wpQuiet_nil ?_
      repeat (refine wpV_q (by simp only [List.getElem?_toArray, List.getElem?_cons_succ, List.getElem?_cons_zero] <;> rfl) (by rfl) (by rfl) ?_; go_big_quiet_step (fail); refine wpQuiet_nil ?_)
      refine wpV_e (by simp only [List.getElem?_toArray, List.getElem?_cons_succ, List.getElem?_cons_zero] <;> rfl) (by rfl) ?_
      go_wp2_with fail
      refine (CH.out _ ((ST1.out.gr (show Gr w1 w1.drew from (Fr.refl _ _).drew)).rowAt 0 rfl) ((ST1.out.gr (show Gr w1 w1.drew from (Fr.refl _ _).drew)).rowAt 1 rfl)).mono ?_
      rintro e w2 ⟨rfl, f2⟩
      have Fw2 : Gr w1 w2 := Gr.trans (show Gr w1 w1.drew from (Fr.refl _ _).drew) f2
      go_wp2_with fail
      refine ⟨⟨⟨w2, Fw2⟩, rfl⟩, ?_⟩
      repeat (refine wpV_q (by simp only [List.getElem?_toArray, List.getElem?_cons_succ, List.getElem?_cons_zero] <;> rfl) (by rfl) (by rfl) ?_; go_big_quiet_step (fail); refine wpQuiet_nil ?_)
      refine wpV_e (by simp only [List.getElem?_toArray, List.getElem?_cons_succ, List.getElem?_cons_zero] <;> rfl) (by rfl) ?_
      go_wp2_with fail
      refine (CL.out _).mono ?_
      rintro e w3 ⟨rfl, f3⟩
      have Fw3 : Gr w1 w3 := Gr.trans Fw2 f3
      go_wp2_with fail
      refine ⟨⟨⟨w3, Fw3⟩, rfl⟩, ?_⟩
      repeat (refine wpV_q (by simp only [List.getElem?_toArray, List.getElem?_cons_succ, List.getElem?_cons_zero] <;> rfl) (by rfl) (by rfl) ?_; go_big_quiet_step (fail); refine wpQuiet_nil ?_)
      refine wpV_e (by simp only [List.getElem?_toArray, List.getElem?_cons_succ, List.getElem?_cons_zero] <;> rfl) (by rfl) ?_
      go_wp2_with fail
      refine (CM.out _).mono ?_
      rintro e w4 ⟨rfl, f4⟩
      have Fw4 : Gr w1 w4 := Gr.trans Fw3 f4
      go_wp2_with fail
      refine ⟨⟨⟨w4, Fw4⟩, rfl⟩, ?_⟩
      repeat (refine wpV_q (by simp only [List.getElem?_toArray, List.getElem?_cons_succ, List.getElem?_cons_zero] <;> rfl) (by rfl) (by rfl) ?_; go_big_quiet_step (fail); refine wpQuiet_nil ?_)
      clear f2 f3 f4
      refine wpV_done ?_
      have FZ := Lib.hid Fw4
      clear this y0 y1 y2 y3
      have FZ2 := FZ.out
      clear FZ CH CL CM Fw2 Fw3 hs d1 CE
      have ST2 := Lib.hid (show Sta W O (.pointer none) [] [⟨b1, peZ, 74⟩, ⟨b0, u.arr x, 74⟩] [] (prows u x []) w4 from ST1.out.gr FZ2)
      clear ST1 FZ2
      obtain rfl : u = v := by rw [HV.out]; unfold peUp peUpNo; rw [← HC.out, HN.out, decide_eq_true h64]; rfl
      clear HV HC HN h64
      go_upto_region 2 with fail
      refine wp_region_lit ?_
      refine wpList_load_mid (by rfl) 74 _ (by rfl) b0 0 (by rfl) (Array.toList (u.arr x)) _ (blk_range (ST2.out.blkAt 1 rfl)) Try.underlying74 rfl Try.infoPeers ?_
      go_wp2_with (refine wpList_storeW (vs := u.arr x) (ST2.out.blkAt 0 rfl) (by rfl) 74 _ _ (by rfl) (by rfl) (by rfl) rfl Try.infoPeers (by rw [← Array.all_toList]; rfl) ?_)
      intro w9 f_ b_
      have ST3 := Lib.hid (show Sta W O (.pointer none) [] [⟨b1, u.arr x, 74⟩, ⟨b0, u.arr x, 74⟩] [] (prows u x []) w9 from ST2.out.store 0 rfl f_ b_)
      clear ST2 f_ b_
      have LL : Hid ((loadVar 74 ⟨b1, 0, none⟩).run Try.prog w9 = .ok (.agg (u.arr x)) w9) := Lib.hid (run_loadVar_mid w9 b1 0 74 (Array.toList (u.arr x)) _ (blk_range (ST3.out.blkAt 0 rfl)) Try.underlying74 rfl Try.infoPeers)
      have LA : Hid ((asAddr (.pointer (some ⟨b1, 0, none⟩))).run Try.prog w9 = .ok ⟨b1, 0, none⟩ w9) := Lib.hid (by simp [go_sem])
      go_wp2_with fail
      refine bodyPost_ret (v := .agg (u.arr x)) (by simp [results, Try.results33, Sem.run_bind, Result.andThen_ok, LL.out, LA.out]) rfl ?_
      exact ⟨x, rfl, ST3.out.out (List.Sublist.refl _) (inC (at_ 0 rfl) (inC (at_ 1 rfl) inN))⟩
    · have d1 : decide ((64 : Int) ≤ (N : Int)) = false := decide_eq_false (by omega)
      haveI : Nonempty (WC (Gr w1)) := ⟨⟨w1, Fr.refl _ _⟩⟩
      have y0 : ∀ z2 : WC (Gr w1), z2.val.cell? ⟨b0, 0, none⟩ = some (.slice x.ea u.e.length x.ec) := fun z2 => z2.ok.cell (ST1.out.cell 1 0 rfl rfl) (fun h => h)
      have y1 : ∀ z2 : WC (Gr w1), z2.val.cell? ⟨b0, 1, none⟩ = some (.int .i64 64) := fun z2 => z2.ok.cell (ST1.out.cell 1 1 rfl rfl) (fun h => h)
      have y2 : ∀ z2 : WC (Gr w1), z2.val.cell? ⟨b0, 2, none⟩ = some (.slice x.za u.z.length x.zc) := fun z2 => z2.ok.cell (ST1.out.cell 1 2 rfl rfl) (fun h => h)
      have y3 : ∀ z2 : WC (Gr w1), z2.val.cell? ⟨b0, 3, none⟩ = some (.int .i64 64) := fun z2 => z2.ok.cell (ST1.out.cell 1 3 rfl rfl) (fun h => h)
      refine wp_region_plan [2, 6, 9] (Plan.seq [0, 1, 2, 3, 4, 5, 6, 7, 8, 9, 10, 11, 12] .done) (fun w' => ∃ z' : WC (Gr w1), w' = z'.val) (by kernel_rfl) (by kernel_rfl) (fun c a w d v h => by cases d <;> exact h) (fun c a w d v h => by cases d <;> exact h) ⟨⟨w1.drew, (Fr.refl _ _).drew⟩, rfl⟩ ?_
      simp only [Plan.seq, List.foldr]
      refine wpV_q (by simp only [List.getElem?_toArray, List.getElem?_cons_zero] <;> rfl) (by rfl) (by rfl) ?_
      go_big_quiet_step (fail)
      refine wpQuiet_nil ?_
      repeat (refine wpV_q (by simp only [List.getElem?_toArray, List.getElem?_cons_succ, List.getElem?_cons_zero] <;> rfl) (by rfl) (by rfl) ?_; go_big_quiet_step (fail); refine wpQuiet_nil ?_)
      refine wpV_e (by simp only [List.getElem?_toArray, List.getElem?_cons_succ, List.getElem?_cons_zero] <;> rfl) (by rfl) ?_
      go_wp2_with fail
      refine (CH.out _ ((ST1.out.gr (show Gr w1 w1.drew from (Fr.refl _ _).drew)).rowAt 0 rfl) ((ST1.out.gr (show Gr w1 w1.drew from (Fr.refl _ _).drew)).rowAt 1 rfl)).mono ?_
      rintro e w2 ⟨rfl, f2⟩
      have Fw2 : Gr w1 w2 := Gr.trans (show Gr w1 w1.drew from (Fr.refl _ _).drew) f2
      go_wp2_with fail
      refine ⟨⟨⟨w2, Fw2⟩, rfl⟩, ?_⟩
      repeat (refine wpV_q (by simp only [List.getElem?_toArray, List.getElem?_cons_succ, List.getElem?_cons_zero] <;> rfl) (by rfl) (by rfl) ?_; go_big_quiet_step (fail); refine wpQuiet_nil ?_)
      refine wpV_e (by simp only [List.getElem?_toArray, List.getElem?_cons_succ, List.getElem?_cons_zero] <;> rfl) (by rfl) ?_
      go_wp2_with fail
      refine (CL.out _).mono ?_
      rintro e w3 ⟨rfl, f3⟩
      have Fw3 : Gr w1 w3 := Gr.trans Fw2 f3
      go_wp2_with fail
      refine ⟨⟨⟨w3, Fw3⟩, rfl⟩, ?_⟩
      repeat (refine wpV_q (by simp only [List.getElem?_toArray, List.getElem?_cons_succ, List.getElem?_cons_zero] <;> rfl) (by rfl) (by rfl) ?_; go_big_quiet_step (fail); refine wpQuiet_nil ?_)
      refine wpV_e (by simp only [List.getElem?_toArray, List.getElem?_cons_succ, List.getElem?_cons_zero] <;> rfl) (by rfl) ?_
      go_wp2_with fail
      refine (CM.out _).mono ?_
      rintro e w4 ⟨rfl, f4⟩
      have Fw4 : Gr w1 w4 := Gr.trans Fw3 f4
      go_wp2_with fail
      refine ⟨⟨⟨w4, Fw4⟩, rfl⟩, ?_⟩
      repeat (refine wpV_q (by simp only [List.getElem?_toArray, List.getElem?_cons_succ, List.getElem?_cons_zero] <;> rfl) (by rfl) (by rfl) ?_; go_big_quiet_step (fail); refine wpQuiet_nil ?_)
      clear f2 f3 f4
      refine wpV_done ?_
      have FZ := Lib.hid Fw4
      clear this y0 y1 y2 y3
      have FZ2 := FZ.out
      clear FZ CH CL CM Fw2 Fw3 hs d1
      have ST2 := Lib.hid (show Sta W O (.pointer none) [] [⟨b1, peZ, 74⟩, ⟨b0, u.arr x, 74⟩] [] (prows u x []) w4 from ST1.out.gr FZ2)
      clear ST1 FZ2
      obtain rfl : (⟨(sAdd u.e 64 n), u.z⟩ : Pe) = v := by rw [HV.out]; unfold peUp peUpNo; rw [← HC.out, HN.out, decide_eq_false h64]; rfl
      clear HV HC HN h64
      have y5 : w4.cell? ⟨b0, 0, none⟩ = some (.slice x.ea u.e.length x.ec) := ST2.out.cell 1 0 rfl rfl
      have y6 : w4.cell? ⟨b0, 1, none⟩ = some (.int .i64 64) := ST2.out.cell 1 1 rfl rfl
      go_upto_region 3 with fail
      go_wp2_with fail
      refine (CE.out _ (ST2.out.rowAt 0 rfl)).mono ?_
      intro e w5 hst
      obtain ⟨ka, kc, rfl, hst2⟩ := ST2.out.callS (at_ 0 rfl) hst
      have ST3 := Lib.hid (show Sta W O (.pointer none) [] [⟨b1, peZ, 74⟩, ⟨b0, u.arr x, 74⟩] [] (⟨ka, (sAdd u.e 64 n).length, kc, ints (sAdd u.e 64 n)⟩ :: prows u x []) w5 from hst2)
      clear hst hst2 ST2 y5 y6 CE
      go_wp2_with (refine wpList_storeB (o := 0) (vs := #[.slice ka (sAdd u.e 64 n).length kc, .int .i64 64]) (ST3.out.blkAt 1 rfl) (by rfl) 27 _ _ (by rfl) (by rfl) (by rfl) (Nat.le_of_ble_eq_true rfl) Try.infoSet2 (by rw [← Array.all_toList]; rfl) ?_)
      intro w6 f_ b_
      have ST4 := Lib.hid (show Sta W O (.pointer none) [] [⟨b1, peZ, 74⟩, ⟨b0, #[.slice ka (sAdd u.e 64 n).length kc, .int .i64 64, .slice x.za u.z.length x.zc, .int .i64 64], 74⟩] [] (⟨ka, (sAdd u.e 64 n).length, kc, ints (sAdd u.e 64 n)⟩ :: prows u x []) w6 from ST3.out.store 1 rfl f_ b_)
      clear ST3 f_ b_
      go_upto_region 4 with fail
      refine wp_region_lit ?_
      refine wpList_load_mid (by rfl) 74 _ (by rfl) b0 0 (by rfl) (Array.toList (#[.slice ka (sAdd u.e 64 n).length kc, .int .i64 64, .slice x.za u.z.length x.zc, .int .i64 64])) _ (blk_range (ST4.out.blkAt 1 rfl)) Try.underlying74 rfl Try.infoPeers ?_
      go_wp2_with (refine wpList_storeW (vs := #[.slice ka (sAdd u.e 64 n).length kc, .int .i64 64, .slice x.za u.z.length x.zc, .int .i64 64]) (ST4.out.blkAt 0 rfl) (by rfl) 74 _ _ (by rfl) (by rfl) (by rfl) rfl Try.infoPeers (by rw [← Array.all_toList]; rfl) ?_)
      intro w9 f_ b_
      have ST5 := Lib.hid (show Sta W O (.pointer none) [] [⟨b1, #[.slice ka (sAdd u.e 64 n).length kc, .int .i64 64, .slice x.za u.z.length x.zc, .int .i64 64], 74⟩, ⟨b0, #[.slice ka (sAdd u.e 64 n).length kc, .int .i64 64, .slice x.za u.z.length x.zc, .int .i64 64], 74⟩] [] (⟨ka, (sAdd u.e 64 n).length, kc, ints (sAdd u.e 64 n)⟩ :: prows u x []) w9 from ST4.out.store 0 rfl f_ b_)
      clear ST4 f_ b_
      have LL : Hid ((loadVar 74 ⟨b1, 0, none⟩).run Try.prog w9 = .ok (.agg (#[.slice ka (sAdd u.e 64 n).length kc, .int .i64 64, .slice x.za u.z.length x.zc, .int .i64 64])) w9) := Lib.hid (run_loadVar_mid w9 b1 0 74 (Array.toList (#[.slice ka (sAdd u.e 64 n).length kc, .int .i64 64, .slice x.za u.z.length x.zc, .int .i64 64])) _ (blk_range (ST5.out.blkAt 0 rfl)) Try.underlying74 rfl Try.infoPeers)
      have LA : Hid ((asAddr (.pointer (some ⟨b1, 0, none⟩))).run Try.prog w9 = .ok ⟨b1, 0, none⟩ w9) := Lib.hid (by simp [go_sem])
      go_wp2_with fail
      refine bodyPost_ret (v := .agg (#[.slice ka (sAdd u.e 64 n).length kc, .int .i64 64, .slice x.za u.z.length x.zc, .int .i64 64])) (by simp [results, Try.results33, Sem.run_bind, Result.andThen_ok, LL.out, LA.out]) rfl ?_
      exact ⟨⟨ka, kc, x.za, x.zc⟩, rfl, ST5.out.out (List.Sublist.refl _) (inC (at_ 0 rfl) (inC (at_ 2 rfl) inN))⟩
end Go.Proofs.Ytelepohdfcjnfaa
