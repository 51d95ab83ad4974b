/-
  The document's peers: Drop, Is, Up, Down, Prune, Graft, All (printed by gen_rpeers.py).
-/
import Derived.Test.YtelepohdfcjnfaaZPeers
import Derived.Test.YtelepohdfcjnfaaZStaB
import Derived.Test.YtelepohdfcjnfaaZRegionM
import Derived.Test.YtelepohdfcjnfaaZSetRef
import Derived.Test.YtelepohdfcjnfaaZSetSort
namespace Go.Proofs.Ytelepohdfcjnfaa
open Go.RowKit Go.Proofs

abbrev Pe.rarr (m : Pe) (x : PeP) : Array Value := #[.slice x.ea m.e.length x.ec, .slice x.za m.z.length x.zc]
abbrev rpeZ : Array Value := #[.slice none 0 0, .slice none 0 0]
theorem Try.zeroRPeers : (Try.prog.info? 77).map (fun i => (i.zero, i.size)) = some (some (.agg rpeZ), 2) := by kernel_rfl
theorem Try.infoRPeers : (Try.prog.info? 77).map (·.size) = some 2 := by kernel_rfl
/-- what a call leaves that gives the document's peers back -/
def RPEnd (W : World) (O : Nat → Prop) (m' : Pe) (r : Array Value → Value) (e : Ending) (w' : World) : Prop :=
  ∃ x', e = .returned (r (m'.rarr x')) ∧ Sta W O (.pointer none) [] [] [] (prows m' x' []) w'
/-- a new row of integers that a call leaves -/
theorem Sta.callNew {W : World} {O : Nat → Prop} {p : Value} {D : List Int} {B : List Blk} {L : List Ow} {R : List Rw} {w w' : World} (h : Sta W O p D B L R w) {l : List Int} {e : Ending} (k : RowNew l w e w') : ∃ a cap, e = .returned (.slice a l.length cap) ∧ Sta W O p D B L (⟨a, l.length, cap, ints l⟩ :: R) w' := by
  obtain ⟨a, cap, rfl, hs, hn, hg⟩ := k
  refine ⟨a, cap, rfl, h.rows (R2 := [⟨a, l.length, cap, ints l⟩]) (gr_pblk hg) (h.dr.keep hg) fun r hr => ?_⟩
  rcases List.mem_cons.1 hr with rfl | hr
  · exact ⟨hs, fun _ q hq => .inr (hn q hq)⟩
  · cases hr
/-- what the document's lists keep -/
structure Pe.Few (m : Pe) : Prop where
  e : m.e.length ≤ 99
  z : m.z.length ≤ 99

set_option maxHeartbeats 4000000 in
set_option maxRecDepth 100000 in
theorem rpDropOwn_any (a : Option Addr) (cap : Nat) (l : List Int) (n : Int) (w : World) (h : SlA w a l.length cap (ints l)) (hl : l.length ≤ 100) :
    Calls Try.prog 62 #[.slice a l.length cap, .int .i64 n] w (OwnOut (rDrop l n) w) := by
  obtain ⟨i0, hi, hz0, hz1, hz2⟩ := info_parts Try.infoint
  have e1 := h.le
  have e2 := h.max
  have HM := Lib.hid h
  have hrd : rDrop l n = kept (fun x => !(x != n)) l := by unfold rDrop kept; congr 1; funext x; simp
  obtain ⟨R, hR⟩ : ∃ R, R = kept (fun x => !(x != n)) l := ⟨_, rfl⟩
  have HR := Lib.hid hR
  rw [hrd, ← hR]
  clear h hrd hR
  go_enter Try.func62, Try.ntmps62
  go_wp2_with fail
  go_loopw [5, 6] (fun rv kv wr => ∃ k : Nat, kv = .int .i64 k ∧ k ≤ l.length ∧ wr.ownsRow w.heap.size 3 1 rv (kept (fun x => !(x != n)) (l.take k)).length (ints (kept (fun x => !(x != n)) (l.take k))) ∧ Gr w wr) (fun _ kv _ => l.length - (intOf kv).toNat)
  case atStart => exact ⟨0, rfl, Nat.zero_le _, World.ownsRow_nil _ _ _ _, Fr.refl _ _⟩
  case round =>
    obtain ⟨k, rfl, hk, hO, hfr⟩ := hrel
    by_cases hkl : k < l.length
    · have hks := kept_snoc (fun x => !(x != n)) l k hkl
      obtain ⟨bm, om, rfl, hcm⟩ := (HM.out.keep hfr (fun _ _ h => h)).int k hkl
      have hRl : (kept (fun x => !(x != n)) (l.take k)).length ≤ 100 := Nat.le_trans (List.length_filter_le _ _) (by simp; omega)
      have HO := Lib.hid hO; clear hO
      have HFR := Lib.hid hfr; clear hfr
      have hsz := HFR.out.size
      by_cases he : l[k] = n
      · have hne : (l[k] != n) = false := by simpa using he
        have HKS : Hid (kept (fun x => !(x != n)) (l.take (k + 1)) = kept (fun x => !(x != n)) (l.take k)) := Lib.hid (by rw [hks, if_pos (by simp [he])])
        clear hks he
        go_wp2_with fail
        go_roundw
        case rel => exact ⟨k + 1, by go_num, by omega, by rw [HKS.out]; exact HO.out, HFR.out⟩
        case measure => simp [intOf]; omega
      · have hne : (l[k] != n) = true := by simpa using he
        have HKS : Hid (kept (fun x => !(x != n)) (l.take (k + 1)) = kept (fun x => !(x != n)) (l.take k) ++ [l[k]]) := Lib.hid (by rw [hks, if_neg (by simp [he])])
        clear hks he
        generalize kept (fun x => !(x != n)) (l.take k) = T at *
        generalize l[k] = z at *
        go_wp2_with (at_builtin; refine wpList_append_own _ rfl _ _ 25 rfl w.heap.size 3 i0 (.int .i64 0) 1 8 Try.underlying25 hi hz0 hz1 hz2 rfl (by decide) _ _ _ rfl (HO.out.alloc _) ⟨wr.heap.size, 0, none⟩ 1 1 [.int .i64 z] rfl rfl (news_one _ _ _) (one_one _ rfl) (by unfold maxLen; omega) (by omega) (by rw [World.size_alloc]; omega) ?_)
        intro v1 w8 hown1 hgrow1 _
        have hf8 : Gr w w8 := (HFR.out.alloc _).grown hgrow1 (fun q hq => .inr ((HO.out.lt q hq).1))
        have HO1 := Lib.hid hown1
        have HF8 := Lib.hid hf8
        clear hown1 hgrow1 hf8
        go_wp2_with fail
        go_roundw
        case rel => exact ⟨k + 1, by go_num, by omega, by rw [HKS.out]; simpa using HO1.out, HF8.out⟩
        case measure => simp [intOf]; omega
    · have hkM : kept (fun x => !(x != n)) (l.take k) = R := by rw [HR.out, List.take_of_length_le (by omega)]
      rw [hkM] at hO
      clear hkM HR
      obtain ⟨ra, rc, rfl, -⟩ := SlA.of_own hO
      have HO := Lib.hid hO
      have FX := Lib.hid hfr
      clear hO hfr hk
      go_wp2_with fail
      go_ret
      exact ⟨_, rfl, HO.out, Fr.below (Below.refl _ _) FX.out (Nat.le_refl _) (fun _ h => h.elim)⟩

theorem rpDrop_any (a : Option Addr) (cap : Nat) (l : List Int) (n : Int) (w : World) (h : SlA w a l.length cap (ints l)) (hl : l.length ≤ 100) :
    Calls Try.prog 62 #[.slice a l.length cap, .int .i64 n] w (RowNew (rDrop l n) w) :=
  (rpDropOwn_any a cap l n w h hl).mono (by
    rintro e w' ⟨v, rfl, ho, hb⟩
    obtain ⟨a, c, rfl, hs, hn, -⟩ := SlA.of_own ho
    exact ⟨a, c, rfl, hs, fun q hq => (hn q hq).1, Gr.of_below hb⟩)

set_option maxHeartbeats 4000000 in
set_option maxRecDepth 100000 in
theorem rpIs_any (m : Pe) (x : PeP) (n : Int) (W : World) (hE : SlA W x.ea m.e.length x.ec (ints m.e)) (hZ : SlA W x.za m.z.length x.zc (ints m.z)) :
    Calls Try.prog 64 #[.agg (m.rarr x), .int .i64 n] W fun e w' => e = .returned (.bool (peHas m n)) ∧ Gr W w' := by
  have HE := Lib.hid hE
  have HZ := Lib.hid hZ
  have CE := Lib.hid (fun w (h1 : SlA w x.ea m.e.length x.ec (ints m.e)) => refHas_any x.ea x.ec m.e n w h1)
  have CZ := Lib.hid (fun w (h1 : SlA w x.za m.z.length x.zc (ints m.z)) => refHas_any x.za x.zc m.z n w h1)
  obtain ⟨w1, hw1⟩ : ∃ w1, w1 = W.alloc (.cells (m.rarr x) 77) := ⟨_, rfl⟩
  have F1 := Lib.hid (show Gr W w1 by rw [hw1]; exact (Fr.refl _ _).alloc _)
  have R1 := Lib.hid (show w1.heap[W.heap.size]? = some (.cells (m.rarr x) 77 (0, 0)) by rw [hw1, heap_alloc_if, if_pos rfl])
  have HW1 := Lib.hid hw1
  clear hw1 hE hZ
  obtain ⟨q, hq⟩ : ∃ q, q = peHas m n := ⟨_, rfl⟩
  have HQ := Lib.hid hq
  rw [← hq]
  clear hq
  have y0 : w1.cell? ⟨W.heap.size, 0, none⟩ = some (.slice x.ea m.e.length x.ec) := (Bx.of_block R1.out) 0 _ rfl
  have y1 : w1.cell? ⟨W.heap.size, 1, none⟩ = some (.slice x.za m.z.length x.zc) := (Bx.of_block R1.out) 1 _ rfl
  go_enter Try.func64, Try.ntmps64
  go_upto_region 1 with fail
  rw [← HW1.out]
  clear HW1
  go_wp2_with fail
  refine (CE.out _ (HE.out.keep F1.out (fun _ _ h => h))).mono ?_
  rintro e _ ⟨rfl, rfl⟩
  clear R1 CE
  cases e1 : has m.e n
  case true =>
    go_wp2_with fail
    go_ret
    exact ⟨by rw [HQ.out]; unfold peHas; rw [e1]; rfl, F1.out⟩
  case false =>
    go_wp2_with fail
    refine (CZ.out _ (HZ.out.keep F1.out (fun _ _ h => h))).mono ?_
    rintro e _ ⟨rfl, rfl⟩
    clear CZ
    go_wp2_with fail
    go_ret
    exact ⟨by rw [HQ.out]; unfold peHas; rw [e1]; rfl, F1.out⟩

set_option maxHeartbeats 4000000 in
set_option maxRecDepth 100000 in
theorem rpDown_any (m : Pe) (x : PeP) (n : Int) (O : Nat → Prop) (W : World) (hs : Sta W O (.pointer none) [] [] [] (prows m x []) W) (hf : m.Few) :
    Calls Try.prog 28 #[.agg (m.rarr x), .int .i64 n] W (RPEnd W O (rpDown m n) (fun a => .agg a)) := by
  have HF := Lib.hid hf
  clear hf
  unfold rpDown
  have CDE := Lib.hid (fun w (h1 : SlA w x.ea m.e.length x.ec (ints m.e)) => rpDrop_any x.ea x.ec m.e n w h1 (by have := HF.out.e; omega))
  have CDZ := Lib.hid (fun w (h1 : SlA w x.za m.z.length x.zc (ints m.z)) => rpDrop_any x.za x.zc m.z n w h1 (by have := HF.out.z; omega))
  obtain ⟨w1, hw1⟩ : ∃ w1, w1 = (W.alloc (.cells (m.rarr x) 77)).alloc (.cells rpeZ 77) := ⟨_, rfl⟩
  obtain ⟨b0, hb0⟩ : ∃ b, b = W.heap.size := ⟨_, rfl⟩
  obtain ⟨b1, hb1⟩ : ∃ b, b = W.heap.size + 1 := ⟨_, rfl⟩
  have ST1 := Lib.hid (show Sta W O (.pointer none) [] [⟨b1, rpeZ, 77⟩, ⟨b0, m.rarr x, 77⟩] [] (prows m x []) w1 by rw [hw1]; exact (hs.box _ _ hb0).box _ _ (by rw [World.size_alloc]; exact hb1))
  have HW1 := Lib.hid hw1
  have HB0 := Lib.hid hb0
  have HB1 := Lib.hid hb1
  clear hw1 hb0 hb1 hs
  go_enter Try.func28, Try.ntmps28
  go_upto_region 1 with fail
  rw [← HW1.out, ← HB1.out, ← HB0.out]
  clear HW1 HB0 HB1
  go_upto_region 1 with fail
  obtain ⟨wd, hwd⟩ : ∃ x, x = w1.drew := ⟨_, rfl⟩
  have HWD := Lib.hid hwd
  have ST2 := Lib.hid (show Sta W O (.pointer none) [] [⟨b1, rpeZ, 77⟩, ⟨b0, m.rarr x, 77⟩] [] (prows m x []) wd from hwd ▸ ST1.out.gr ((Fr.refl _ _).drew))
  clear ST1 hwd
  haveI : Nonempty (WC (fun w => w.heap[b0]? = some (.cells (m.rarr x) 77 (0, 0)))) := ⟨⟨wd, ST2.out.blkAt 1 rfl⟩⟩
  have q0 : ∀ z : WC (fun w => w.heap[b0]? = some (.cells (m.rarr x) 77 (0, 0))), z.val.cell? ⟨b0, 0, none⟩ = some (.slice x.ea m.e.length x.ec) := fun z => by rw [Lib.cell_of_heap z.ok]; rfl
  have q1 : ∀ z : WC (fun w => w.heap[b0]? = some (.cells (m.rarr x) 77 (0, 0))), z.val.cell? ⟨b0, 1, none⟩ = some (.slice x.za m.z.length x.zc) := fun z => by rw [Lib.cell_of_heap z.ok]; rfl
  refine wp_region_planM [3, 7, 9] (.take 0 (.take 2 (.take 4 (.take 6 (.take 1 (.take 5 (.take 3 (.take 7 (.take 8 (.take 9 .done)))))))))) (fun w' => ∃ z : WC (fun w => w.heap[b0]? = some (.cells (m.rarr x) 77 (0, 0))), w' = z.val) (by kernel_rfl) (by kernel_rfl) (fun c a w d v h => by cases d <;> exact h) (fun c a w d v h => by cases d <;> exact h) (by rw [← HWD.out]; exact ⟨⟨wd, ST2.out.blkAt 1 rfl⟩, rfl⟩) ?_
  rw [← HWD.out]
  clear HWD
  refine wpVM_q (by simp only [List.getElem?_toArray, List.getElem?_cons_zero] <;> rfl) (by rfl) (by rfl) ?_
  go_big_quiet_step (fail)
  refine wpQuiet_nil ?_
  refine wpVM_q (by simp only [List.getElem?_toArray, List.getElem?_cons_succ, List.getElem?_cons_zero] <;> rfl) (by rfl) (by rfl) ?_
  go_big_quiet_step (fail)
  refine wpQuiet_nil ?_
  refine wpVM_q (by simp only [List.getElem?_toArray, List.getElem?_cons_succ, List.getElem?_cons_zero] <;> rfl) (by rfl) (by rfl) ?_
  go_big_quiet_step (fail)
  refine wpQuiet_nil ?_
  refine wpVM_q (by simp only [List.getElem?_toArray, List.getElem?_cons_succ, List.getElem?_cons_zero] <;> rfl) (by rfl) (by rfl) ?_
  go_big_quiet_step (fail)
  refine wpQuiet_nil ?_
  refine wpVM_q (by simp only [List.getElem?_toArray, List.getElem?_cons_succ, List.getElem?_cons_zero] <;> rfl) (by rfl) (by rfl) ?_
  go_big_quiet_step (fail)
  refine wpQuiet_nil ?_
  refine wpVM_q (by simp only [List.getElem?_toArray, List.getElem?_cons_succ, List.getElem?_cons_zero] <;> rfl) (by rfl) (by rfl) ?_
  go_big_quiet_step (fail)
  refine wpQuiet_nil ?_
  refine wpVM_e (by simp only [List.getElem?_toArray, List.getElem?_cons_succ, List.getElem?_cons_zero] <;> rfl) (by rfl) ?_
  go_wp2_with fail
  refine (CDE.out _ (ST2.out.rowAt 0 rfl)).mono ?_
  intro e wa6 hst
  obtain ⟨ka, kc, rfl, hst2⟩ := ST2.out.callNew hst
  have ST3 := Lib.hid (show Sta W O (.pointer none) [] [⟨b1, rpeZ, 77⟩, ⟨b0, m.rarr x, 77⟩] [] (⟨ka, (rDrop m.e n).length, kc, ints (rDrop m.e n)⟩ :: prows m x []) wa6 from hst2)
  clear hst hst2 ST2
  go_wp2_with fail
  refine ⟨⟨⟨wa6, ST3.out.blkAt 1 rfl⟩, rfl⟩, ?_⟩
  refine wpVM_e (by simp only [List.getElem?_toArray, List.getElem?_cons_succ, List.getElem?_cons_zero] <;> rfl) (by rfl) ?_
  go_wp2_with fail
  refine (CDZ.out _ (ST3.out.rowAt 2 rfl)).mono ?_
  intro e wa7 hst
  obtain ⟨la, lc, rfl, hst2⟩ := ST3.out.callNew hst
  have ST4 := Lib.hid (show Sta W O (.pointer none) [] [⟨b1, rpeZ, 77⟩, ⟨b0, m.rarr x, 77⟩] [] (⟨la, (rDrop m.z n).length, lc, ints (rDrop m.z n)⟩ :: ⟨ka, (rDrop m.e n).length, kc, ints (rDrop m.e n)⟩ :: prows m x []) wa7 from hst2)
  clear hst hst2 ST3
  go_wp2_with fail
  refine ⟨⟨⟨wa7, ST4.out.blkAt 1 rfl⟩, rfl⟩, ?_⟩
  refine wpVM_q (by simp only [List.getElem?_toArray, List.getElem?_cons_succ, List.getElem?_cons_zero] <;> rfl) (by rfl) (by rfl) ?_
  go_big_quiet_step (fail)
  refine wpQuiet_nil ?_
  refine wpVM_e (by simp only [List.getElem?_toArray, List.getElem?_cons_succ, List.getElem?_cons_zero] <;> rfl) (by rfl) ?_
  refine wpList_storeW (vs := #[.slice ka (rDrop m.e n).length kc, .slice la (rDrop m.z n).length lc]) (ST4.out.blkAt 0 rfl) (by rfl) 77 _ _ (by rfl) (by rfl) (by rfl) rfl Try.infoRPeers (by rw [← Array.all_toList]; rfl) ?_
  intro wa9 f_ b_
  have ST5 := Lib.hid (show Sta W O (.pointer none) [] [⟨b1, #[.slice ka (rDrop m.e n).length kc, .slice la (rDrop m.z n).length lc], 77⟩, ⟨b0, m.rarr x, 77⟩] [] (⟨la, (rDrop m.z n).length, lc, ints (rDrop m.z n)⟩ :: ⟨ka, (rDrop m.e n).length, kc, ints (rDrop m.e n)⟩ :: prows m x []) wa9 from ST4.out.store 0 rfl f_ b_)
  clear ST4 f_ b_
  refine wpList_nil ?_
  refine ⟨⟨⟨wa9, ST5.out.blkAt 1 rfl⟩, rfl⟩, ?_⟩
  simp only [Act.put]
  refine wpVM_done ?_
  clear q0 q1
  have LL : Hid ((loadVar 77 ⟨b1, 0, none⟩).run Try.prog wa9 = .ok (.agg (#[.slice ka (rDrop m.e n).length kc, .slice la (rDrop m.z n).length lc])) wa9) := Lib.hid (run_loadVar_mid wa9 b1 0 77 (Array.toList (#[.slice ka (rDrop m.e n).length kc, .slice la (rDrop m.z n).length lc])) _ (blk_range (ST5.out.blkAt 0 rfl)) Try.underlying77 rfl Try.infoRPeers)
  have LA : Hid ((asAddr (.pointer (some ⟨b1, 0, none⟩))).run Try.prog wa9 = .ok ⟨b1, 0, none⟩ wa9) := Lib.hid (by simp [go_sem])
  go_wp2_with fail
  refine bodyPost_ret (v := .agg (#[.slice ka (rDrop m.e n).length kc, .slice la (rDrop m.z n).length lc])) (by simp [results, Try.results28, Sem.run_bind, Result.andThen_ok, LL.out, LA.out]) rfl ?_
  exact ⟨⟨ka, kc, la, lc⟩, rfl, ST5.out.out (List.Sublist.refl _) (inC (at_ 1 rfl) (inC (at_ 0 rfl) inN))⟩

set_option maxHeartbeats 4000000 in
set_option maxRecDepth 100000 in
theorem rpPrune_any (m : Pe) (x : PeP) (n : Int) (O : Nat → Prop) (W : World) (hs : Sta W O (.pointer none) [] [] [] (prows m x []) W) (hf : m.Few) :
    Calls Try.prog 30 #[.agg (m.rarr x), .int .i64 n] W (RPEnd W O (rpPrune m n).1 (fun a => .tuple #[.agg a, .bool (rpPrune m n).2])) := by
  have HF := Lib.hid hf
  clear hf
  have CDE := Lib.hid (fun w (h1 : SlA w x.ea m.e.length x.ec (ints m.e)) => rpDrop_any x.ea x.ec m.e n w h1 (by have := HF.out.e; omega))
  have CH := Lib.hid (fun w (h1 : SlA w x.ea m.e.length x.ec (ints m.e)) => refHas_any x.ea x.ec m.e n w h1)
  obtain ⟨v, b, hv⟩ : ∃ v b, rpPrune m n = (v, b) := ⟨_, _, rfl⟩
  rw [hv]
  simp only
  unfold rpPrune at hv
  have HV := Lib.hid hv
  clear hv
  obtain ⟨w1, hw1⟩ : ∃ w1, w1 = (W.alloc (.cells (m.rarr x) 77)).alloc (.cells rpeZ 77) := ⟨_, rfl⟩
  obtain ⟨b0, hb0⟩ : ∃ b, b = W.heap.size := ⟨_, rfl⟩
  obtain ⟨b1, hb1⟩ : ∃ b, b = W.heap.size + 1 := ⟨_, rfl⟩
  have ST1 := Lib.hid (show Sta W O (.pointer none) [] [⟨b1, rpeZ, 77⟩, ⟨b0, m.rarr x, 77⟩] [] (prows m x []) w1 by rw [hw1]; exact (hs.box _ _ hb0).box _ _ (by rw [World.size_alloc]; exact hb1))
  have HW1 := Lib.hid hw1
  have HB0 := Lib.hid hb0
  have HB1 := Lib.hid hb1
  clear hw1 hb0 hb1 hs
  go_enter Try.func30, Try.ntmps30
  go_upto_region 1 with fail
  rw [← HW1.out, ← HB1.out, ← HB0.out]
  clear HW1 HB0 HB1
  have y0 : w1.cell? ⟨b0, 0, none⟩ = some (.slice x.ea m.e.length x.ec) := ST1.out.cell 1 0 rfl rfl
  go_wp2_with fail
  refine (CH.out _ (ST1.out.rowAt 0 rfl)).mono ?_
  rintro e _ ⟨rfl, rfl⟩
  clear y0 CH
  cases e1 : has m.e n
  case false =>
    obtain ⟨rfl, rfl⟩ : m = v ∧ false = b := by
      have hh := HV.out
      rw [e1, if_neg (by decide)] at hh
      injection hh with a b
      exact ⟨a, b⟩
    clear HV e1
    go_upto_region 2 with fail
    refine wp_region_lit ?_
    refine wpList_load_mid (by rfl) 77 _ (by rfl) b0 0 (by rfl) (Array.toList (m.rarr x)) _ (blk_range (ST1.out.blkAt 1 rfl)) Try.underlying77 rfl Try.infoRPeers ?_
    go_wp2_with (refine wpList_storeW (vs := m.rarr x) (ST1.out.blkAt 0 rfl) (by rfl) 77 _ _ (by rfl) (by rfl) (by rfl) rfl Try.infoRPeers (by rw [← Array.all_toList]; rfl) ?_)
    intro w9 f_ b_
    have ST2 := Lib.hid (show Sta W O (.pointer none) [] [⟨b1, m.rarr x, 77⟩, ⟨b0, m.rarr x, 77⟩] [] (prows m x []) w9 from ST1.out.store 0 rfl f_ b_)
    clear ST1 f_ b_
    have LL : Hid ((loadVar 77 ⟨b1, 0, none⟩).run Try.prog w9 = .ok (.agg (m.rarr x)) w9) := Lib.hid (run_loadVar_mid w9 b1 0 77 (Array.toList (m.rarr x)) _ (blk_range (ST2.out.blkAt 0 rfl)) Try.underlying77 rfl Try.infoRPeers)
    have LA : Hid ((asAddr (.pointer (some ⟨b1, 0, none⟩))).run Try.prog w9 = .ok ⟨b1, 0, none⟩ w9) := Lib.hid (by simp [go_sem])
    go_wp2_with fail
    refine bodyPost_ret (v := .tuple #[.agg (m.rarr x), .bool false]) (by simp [results, Try.results30, Sem.run_bind, Result.andThen_ok, LL.out, LA.out]) rfl ?_
    exact ⟨x, rfl, ST2.out.out (List.Sublist.refl _) (inC (at_ 0 rfl) (inC (at_ 1 rfl) inN))⟩
  case true =>
    obtain ⟨A, hA⟩ : ∃ A, A = m.z ++ [n] := ⟨_, rfl⟩
    obtain ⟨rfl, rfl⟩ : (⟨rDrop m.e n, A⟩ : Pe) = v ∧ true = b := by
      have hh := HV.out
      rw [e1, if_pos rfl, ← hA] at hh
      injection hh with a b
      exact ⟨a, b⟩
    clear HV e1
    have HA := Lib.hid hA
    clear hA
    go_upto_region 3 with fail
    obtain ⟨wd, hwd⟩ : ∃ x, x = w1.drew := ⟨_, rfl⟩
    have HWD := Lib.hid hwd
    have ST2 := Lib.hid (show Sta W O (.pointer none) [] [⟨b1, rpeZ, 77⟩, ⟨b0, m.rarr x, 77⟩] [] (prows m x []) wd from hwd ▸ ST1.out.gr ((Fr.refl _ _).drew))
    clear ST1 hwd
    haveI : Nonempty (WC (fun w => w.heap[b0]? = some (.cells (m.rarr x) 77 (0, 0)))) := ⟨⟨wd, ST2.out.blkAt 1 rfl⟩⟩
    have q0 : ∀ z : WC (fun w => w.heap[b0]? = some (.cells (m.rarr x) 77 (0, 0))), z.val.cell? ⟨b0, 0, none⟩ = some (.slice x.ea m.e.length x.ec) := fun z => by rw [Lib.cell_of_heap z.ok]; rfl
    have q1 : ∀ z : WC (fun w => w.heap[b0]? = some (.cells (m.rarr x) 77 (0, 0))), z.val.cell? ⟨b0, 1, none⟩ = some (.slice x.za m.z.length x.zc) := fun z => by rw [Lib.cell_of_heap z.ok]; rfl
    refine wp_region_planM [3, 4, 7, 9, 10, 12, 13] (.take 0 (.take 2 (.take 5 (.take 8 (.take 1 (.take 6 (.part 3 4 9 ((.fork 4 9 ((.fork 7 9 ((.take 9 (.take 10 (.take 11 (.take 12 (.take 13 .done)))))) ((.take 7 (.take 10 (.take 11 (.take 12 (.take 13 .done)))))))) ((.take 4 (.take 7 (.take 10 (.take 11 (.take 12 (.take 13 .done))))))))) ((.fork 3 9 ((.fork 7 9 ((.take 9 (.take 10 (.take 11 (.take 12 (.take 13 .done)))))) ((.take 7 (.take 10 (.take 11 (.take 12 (.take 13 .done)))))))) ((.take 3 (.take 7 (.take 10 (.take 11 (.take 12 (.take 13 .done))))))))) ((.fork 3 4 ((.take 4 (.take 7 (.take 10 (.take 11 (.take 12 (.take 13 .done))))))) ((.take 3 (.take 7 (.take 10 (.take 11 (.take 12 (.take 13 .done)))))))))))))))) (fun w' => ∃ z : WC (fun w => w.heap[b0]? = some (.cells (m.rarr x) 77 (0, 0))), w' = z.val) (by kernel_rfl) (by kernel_rfl) (fun c a w d v h => by cases d <;> exact h) (fun c a w d v h => by cases d <;> exact h) (by rw [← HWD.out]; exact ⟨⟨wd, ST2.out.blkAt 1 rfl⟩, rfl⟩) ?_
    rw [← HWD.out]
    clear HWD
    refine wpVM_q (by simp only [List.getElem?_toArray, List.getElem?_cons_zero] <;> rfl) (by rfl) (by rfl) ?_
    go_big_quiet_step (fail)
    refine wpQuiet_nil ?_
    refine wpVM_q (by simp only [List.getElem?_toArray, List.getElem?_cons_succ, List.getElem?_cons_zero] <;> rfl) (by rfl) (by rfl) ?_
    go_big_quiet_step (fail)
    refine wpQuiet_nil ?_
    refine wpVM_q (by simp only [List.getElem?_toArray, List.getElem?_cons_succ, List.getElem?_cons_zero] <;> rfl) (by rfl) (by rfl) ?_
    go_big_quiet_step (fail)
    refine wpQuiet_nil ?_
    refine wpVM_q (by simp only [List.getElem?_toArray, List.getElem?_cons_succ, List.getElem?_cons_zero] <;> rfl) (by rfl) (by rfl) ?_
    go_big_quiet_step (fail)
    refine wpQuiet_nil ?_
    refine wpVM_q (by simp only [List.getElem?_toArray, List.getElem?_cons_succ, List.getElem?_cons_zero] <;> rfl) (by rfl) (by rfl) ?_
    go_big_quiet_step (fail)
    refine wpQuiet_nil ?_
    refine wpVM_q (by simp only [List.getElem?_toArray, List.getElem?_cons_succ, List.getElem?_cons_zero] <;> rfl) (by rfl) (by rfl) ?_
    go_big_quiet_step (fail)
    refine wpQuiet_nil ?_
    refine wpVM_part (by simp only [List.getElem?_toArray, List.getElem?_cons_succ, List.getElem?_cons_zero] <;> rfl) (by simp only [List.getElem?_toArray, List.getElem?_cons_succ, List.getElem?_cons_zero] <;> rfl) (by simp only [List.getElem?_toArray, List.getElem?_cons_succ, List.getElem?_cons_zero] <;> rfl) ?_ ?_ ?_
    · go_wp2_with fail
      refine (CDE.out _ (ST2.out.rowAt 0 rfl)).mono ?_
      intro e wa6 hst
      obtain ⟨ka, kc, rfl, hst2⟩ := ST2.out.callNew hst
      have ST3 := Lib.hid (show Sta W O (.pointer none) [] [⟨b1, rpeZ, 77⟩, ⟨b0, m.rarr x, 77⟩] [] (⟨ka, (rDrop m.e n).length, kc, ints (rDrop m.e n)⟩ :: prows m x []) wa6 from hst2)
      clear hst hst2 ST2
      go_wp2_with fail
      refine ⟨⟨⟨wa6, ST3.out.blkAt 1 rfl⟩, rfl⟩, ?_⟩
      refine wpVM_fork (by simp only [List.getElem?_toArray, List.getElem?_cons_succ, List.getElem?_cons_zero] <;> rfl) (by simp only [List.getElem?_toArray, List.getElem?_cons_succ, List.getElem?_cons_zero] <;> rfl) ?_ ?_
      · go_wp2_with fail
        obtain ⟨wa7, hw_⟩ : ∃ x, x = wa6.alloc (.cells #[] 3) := ⟨_, rfl⟩
        obtain ⟨e4, he_⟩ : ∃ b, b = wa6.heap.size := ⟨_, rfl⟩
        rw [← hw_, ← he_]
        have ST4 := Lib.hid (show Sta W O (.pointer none) [] [⟨b1, rpeZ, 77⟩, ⟨b0, m.rarr x, 77⟩] [⟨3, 1, .slice (some ⟨e4, 0, none⟩) 0 0, 0, []⟩] (⟨ka, (rDrop m.e n).length, kc, ints (rDrop m.e n)⟩ :: prows m x []) wa7 from hw_ ▸ ST3.out.ownNew ((Fr.refl _ _).alloc _) (xs := []) (n := 0) (by rw [heap_alloc_if, if_pos he_]) (Nat.le_of_eq he_.symm) rfl (by decide))
        clear ST3 hw_ he_
        refine ⟨⟨⟨wa7, ST4.out.blkAt 1 rfl⟩, rfl⟩, ?_⟩
        refine wpVM_fork (by simp only [List.getElem?_toArray, List.getElem?_cons_succ, List.getElem?_cons_zero] <;> rfl) (by simp only [List.getElem?_toArray, List.getElem?_cons_succ, List.getElem?_cons_zero] <;> rfl) ?_ ?_
        · refine wpList_growI (by rfl) _ _ (by rfl) ST4.out 0 rfl (ST4.out.rowAt 2 rfl) (by rfl) (by rfl) (by have := HF.out.e; have := HF.out.z; omega) ?_
          intro v7 wa8 hst
          refine wpList_nil ?_
          have ST5 := Lib.hid (show Sta W O (.pointer none) [] [⟨b1, rpeZ, 77⟩, ⟨b0, m.rarr x, 77⟩] [⟨3, 1, v7, 0 + m.z.length, [] ++ ints m.z⟩] (⟨ka, (rDrop m.e n).length, kc, ints (rDrop m.e n)⟩ :: prows m x []) wa8 from hst)
          clear hst ST4
          refine ⟨⟨⟨wa8, ST5.out.blkAt 1 rfl⟩, rfl⟩, ?_⟩
          simp only [Act.put, List.setIfInBounds_toArray, List.set_cons_succ, List.set_cons_zero]
          refine wpVM_e (by simp only [List.getElem?_toArray, List.getElem?_cons_succ, List.getElem?_cons_zero] <;> rfl) (by rfl) ?_
          go_wp2_with fail
          obtain ⟨wa9, hw_⟩ : ∃ x, x = wa8.alloc (.cells #[.int .i64 n] 3) := ⟨_, rfl⟩
          obtain ⟨e9, he_⟩ : ∃ b, b = wa8.heap.size := ⟨_, rfl⟩
          rw [← hw_, ← he_]
          have ST6 := Lib.hid (show Sta W O (.pointer none) [] [⟨b1, rpeZ, 77⟩, ⟨b0, m.rarr x, 77⟩] [⟨3, 1, .slice (some ⟨e9, 0, none⟩) 1 1, 1, [.int .i64 n]⟩, ⟨3, 1, v7, 0 + m.z.length, [] ++ ints m.z⟩] (⟨ka, (rDrop m.e n).length, kc, ints (rDrop m.e n)⟩ :: prows m x []) wa9 from hw_ ▸ ST5.out.ownNew ((Fr.refl _ _).alloc _) (xs := [.int .i64 n]) (n := 1) (by rw [heap_alloc_if, if_pos he_]) (Nat.le_of_eq he_.symm) rfl (by decide))
          clear ST5 hw_ he_
          refine ⟨⟨⟨wa9, ST6.out.blkAt 1 rfl⟩, rfl⟩, ?_⟩
          refine wpVM_e (by simp only [List.getElem?_toArray, List.getElem?_cons_succ, List.getElem?_cons_zero] <;> rfl) (by rfl) ?_
          refine wpList_growT (by rfl) _ _ 25 3 1 8 (.int .i64 0) Try.underlying25 Try.infoint rfl (by decide) (by decide) (by rfl) ST6.out 1 rfl (by rfl) (by rfl) (own_add (ST6.out.ownAt 0 rfl)) (by rfl) (by rfl) (by have := HF.out.e; have := HF.out.z; omega) ?_
          intro v10 wa10 hst
          refine wpList_nil ?_
          have ST7 := Lib.hid (show Sta W O (.pointer none) [] [⟨b1, rpeZ, 77⟩, ⟨b0, m.rarr x, 77⟩] [⟨3, 1, .slice (some ⟨e9, 0, none⟩) 1 1, 1, [.int .i64 n]⟩, ⟨3, 1, v10, 0 + m.z.length + 1, [] ++ ints m.z ++ [.int .i64 n]⟩] (⟨ka, (rDrop m.e n).length, kc, ints (rDrop m.e n)⟩ :: prows m x []) wa10 from hst)
          clear hst ST6
          obtain ⟨za2, zc2, rfl, hst⟩ := ST7.out.asRow 1 rfl
          have hrr : 0 + m.z.length + 1 = A.length ∧ [] ++ ints m.z ++ [Value.int .i64 n] = ints A := by rw [HA.out]; constructor <;> simp
          rw [hrr.1, hrr.2] at hst
          rw [hrr.1]
          have ST8 := Lib.hid (show Sta W O (.pointer none) [] [⟨b1, rpeZ, 77⟩, ⟨b0, m.rarr x, 77⟩] [⟨3, 1, .slice (some ⟨e9, 0, none⟩) 1 1, 1, [.int .i64 n]⟩] (⟨za2, A.length, zc2, ints A⟩ :: ⟨ka, (rDrop m.e n).length, kc, ints (rDrop m.e n)⟩ :: prows m x []) wa10 from hst)
          clear hst hrr ST7
          refine ⟨⟨⟨wa10, ST8.out.blkAt 1 rfl⟩, rfl⟩, ?_⟩
          simp only [Act.put, List.setIfInBounds_toArray, List.set_cons_succ, List.set_cons_zero]
          refine wpVM_q (by simp only [List.getElem?_toArray, List.getElem?_cons_succ, List.getElem?_cons_zero] <;> rfl) (by rfl) (by rfl) ?_
          go_big_quiet_step (fail)
          refine wpQuiet_nil ?_
          refine wpVM_e (by simp only [List.getElem?_toArray, List.getElem?_cons_succ, List.getElem?_cons_zero] <;> rfl) (by rfl) ?_
          refine wpList_storeW (vs := #[.slice ka (rDrop m.e n).length kc, .slice za2 A.length zc2]) (ST8.out.blkAt 0 rfl) (by rfl) 77 _ _ (by rfl) (by rfl) (by rfl) rfl Try.infoRPeers (by rw [← Array.all_toList]; rfl) ?_
          intro wa12 f_ b_
          have ST9 := Lib.hid (show Sta W O (.pointer none) [] [⟨b1, #[.slice ka (rDrop m.e n).length kc, .slice za2 A.length zc2], 77⟩, ⟨b0, m.rarr x, 77⟩] [⟨3, 1, .slice (some ⟨e9, 0, none⟩) 1 1, 1, [.int .i64 n]⟩] (⟨za2, A.length, zc2, ints A⟩ :: ⟨ka, (rDrop m.e n).length, kc, ints (rDrop m.e n)⟩ :: prows m x []) wa12 from ST8.out.store 0 rfl f_ b_)
          clear ST8 f_ b_
          refine wpList_nil ?_
          refine ⟨⟨⟨wa12, ST9.out.blkAt 1 rfl⟩, rfl⟩, ?_⟩
          simp only [Act.put]
          refine wpVM_e (by simp only [List.getElem?_toArray, List.getElem?_cons_succ, List.getElem?_cons_zero] <;> rfl) (by rfl) ?_
          go_wp2_with fail
          refine ⟨⟨⟨wa12, ST9.out.blkAt 1 rfl⟩, rfl⟩, ?_⟩
          refine wpVM_done ?_
          clear q0 q1
          have LL : Hid ((loadVar 77 ⟨b1, 0, none⟩).run Try.prog wa12 = .ok (.agg (#[.slice ka (rDrop m.e n).length kc, .slice za2 A.length zc2])) wa12) := Lib.hid (run_loadVar_mid wa12 b1 0 77 (Array.toList (#[.slice ka (rDrop m.e n).length kc, .slice za2 A.length zc2])) _ (blk_range (ST9.out.blkAt 0 rfl)) Try.underlying77 rfl Try.infoRPeers)
          have LA : Hid ((asAddr (.pointer (some ⟨b1, 0, none⟩))).run Try.prog wa12 = .ok ⟨b1, 0, none⟩ wa12) := Lib.hid (by simp [go_sem])
          go_wp2_with fail
          refine bodyPost_ret (v := .tuple #[.agg (#[.slice ka (rDrop m.e n).length kc, .slice za2 A.length zc2]), .bool true]) (by simp [results, Try.results30, Sem.run_bind, Result.andThen_ok, LL.out, LA.out]) rfl ?_
          exact ⟨⟨ka, kc, za2, zc2⟩, rfl, ST9.out.out (List.nil_sublist _) (inC (at_ 1 rfl) (inC (at_ 0 rfl) inN))⟩
        · go_wp2_with fail
          obtain ⟨wa8, hw_⟩ : ∃ x, x = wa7.alloc (.cells #[.int .i64 n] 3) := ⟨_, rfl⟩
          obtain ⟨e9, he_⟩ : ∃ b, b = wa7.heap.size := ⟨_, rfl⟩
          rw [← hw_, ← he_]
          have ST5 := Lib.hid (show Sta W O (.pointer none) [] [⟨b1, rpeZ, 77⟩, ⟨b0, m.rarr x, 77⟩] [⟨3, 1, .slice (some ⟨e9, 0, none⟩) 1 1, 1, [.int .i64 n]⟩, ⟨3, 1, .slice (some ⟨e4, 0, none⟩) 0 0, 0, []⟩] (⟨ka, (rDrop m.e n).length, kc, ints (rDrop m.e n)⟩ :: prows m x []) wa8 from hw_ ▸ ST4.out.ownNew ((Fr.refl _ _).alloc _) (xs := [.int .i64 n]) (n := 1) (by rw [heap_alloc_if, if_pos he_]) (Nat.le_of_eq he_.symm) rfl (by decide))
          clear ST4 hw_ he_
          refine ⟨⟨⟨wa8, ST5.out.blkAt 1 rfl⟩, rfl⟩, ?_⟩
          refine wpVM_e (by simp only [List.getElem?_toArray, List.getElem?_cons_succ, List.getElem?_cons_zero] <;> rfl) (by rfl) ?_
          refine wpList_growI (by rfl) _ _ (by rfl) ST5.out 1 rfl (ST5.out.rowAt 2 rfl) (by rfl) (by rfl) (by have := HF.out.e; have := HF.out.z; omega) ?_
          intro v7 wa9 hst
          refine wpList_nil ?_
          have ST6 := Lib.hid (show Sta W O (.pointer none) [] [⟨b1, rpeZ, 77⟩, ⟨b0, m.rarr x, 77⟩] [⟨3, 1, .slice (some ⟨e9, 0, none⟩) 1 1, 1, [.int .i64 n]⟩, ⟨3, 1, v7, 0 + m.z.length, [] ++ ints m.z⟩] (⟨ka, (rDrop m.e n).length, kc, ints (rDrop m.e n)⟩ :: prows m x []) wa9 from hst)
          clear hst ST5
          refine ⟨⟨⟨wa9, ST6.out.blkAt 1 rfl⟩, rfl⟩, ?_⟩
          simp only [Act.put, List.setIfInBounds_toArray, List.set_cons_succ, List.set_cons_zero]
          refine wpVM_e (by simp only [List.getElem?_toArray, List.getElem?_cons_succ, List.getElem?_cons_zero] <;> rfl) (by rfl) ?_
          refine wpList_growT (by rfl) _ _ 25 3 1 8 (.int .i64 0) Try.underlying25 Try.infoint rfl (by decide) (by decide) (by rfl) ST6.out 1 rfl (by rfl) (by rfl) (own_add (ST6.out.ownAt 0 rfl)) (by rfl) (by rfl) (by have := HF.out.e; have := HF.out.z; omega) ?_
          intro v10 wa10 hst
          refine wpList_nil ?_
          have ST7 := Lib.hid (show Sta W O (.pointer none) [] [⟨b1, rpeZ, 77⟩, ⟨b0, m.rarr x, 77⟩] [⟨3, 1, .slice (some ⟨e9, 0, none⟩) 1 1, 1, [.int .i64 n]⟩, ⟨3, 1, v10, 0 + m.z.length + 1, [] ++ ints m.z ++ [.int .i64 n]⟩] (⟨ka, (rDrop m.e n).length, kc, ints (rDrop m.e n)⟩ :: prows m x []) wa10 from hst)
          clear hst ST6
          obtain ⟨za2, zc2, rfl, hst⟩ := ST7.out.asRow 1 rfl
          have hrr : 0 + m.z.length + 1 = A.length ∧ [] ++ ints m.z ++ [Value.int .i64 n] = ints A := by rw [HA.out]; constructor <;> simp
          rw [hrr.1, hrr.2] at hst
          rw [hrr.1]
          have ST8 := Lib.hid (show Sta W O (.pointer none) [] [⟨b1, rpeZ, 77⟩, ⟨b0, m.rarr x, 77⟩] [⟨3, 1, .slice (some ⟨e9, 0, none⟩) 1 1, 1, [.int .i64 n]⟩] (⟨za2, A.length, zc2, ints A⟩ :: ⟨ka, (rDrop m.e n).length, kc, ints (rDrop m.e n)⟩ :: prows m x []) wa10 from hst)
          clear hst hrr ST7
          refine ⟨⟨⟨wa10, ST8.out.blkAt 1 rfl⟩, rfl⟩, ?_⟩
          simp only [Act.put, List.setIfInBounds_toArray, List.set_cons_succ, List.set_cons_zero]
          refine wpVM_q (by simp only [List.getElem?_toArray, List.getElem?_cons_succ, List.getElem?_cons_zero] <;> rfl) (by rfl) (by rfl) ?_
          go_big_quiet_step (fail)
          refine wpQuiet_nil ?_
          refine wpVM_e (by simp only [List.getElem?_toArray, List.getElem?_cons_succ, List.getElem?_cons_zero] <;> rfl) (by rfl) ?_
          refine wpList_storeW (vs := #[.slice ka (rDrop m.e n).length kc, .slice za2 A.length zc2]) (ST8.out.blkAt 0 rfl) (by rfl) 77 _ _ (by rfl) (by rfl) (by rfl) rfl Try.infoRPeers (by rw [← Array.all_toList]; rfl) ?_
          intro wa12 f_ b_
          have ST9 := Lib.hid (show Sta W O (.pointer none) [] [⟨b1, #[.slice ka (rDrop m.e n).length kc, .slice za2 A.length zc2], 77⟩, ⟨b0, m.rarr x, 77⟩] [⟨3, 1, .slice (some ⟨e9, 0, none⟩) 1 1, 1, [.int .i64 n]⟩] (⟨za2, A.length, zc2, ints A⟩ :: ⟨ka, (rDrop m.e n).length, kc, ints (rDrop m.e n)⟩ :: prows m x []) wa12 from ST8.out.store 0 rfl f_ b_)
          clear ST8 f_ b_
          refine wpList_nil ?_
          refine ⟨⟨⟨wa12, ST9.out.blkAt 1 rfl⟩, rfl⟩, ?_⟩
          simp only [Act.put]
          refine wpVM_e (by simp only [List.getElem?_toArray, List.getElem?_cons_succ, List.getElem?_cons_zero] <;> rfl) (by rfl) ?_
          go_wp2_with fail
          refine ⟨⟨⟨wa12, ST9.out.blkAt 1 rfl⟩, rfl⟩, ?_⟩
          refine wpVM_done ?_
          clear q0 q1
          have LL : Hid ((loadVar 77 ⟨b1, 0, none⟩).run Try.prog wa12 = .ok (.agg (#[.slice ka (rDrop m.e n).length kc, .slice za2 A.length zc2])) wa12) := Lib.hid (run_loadVar_mid wa12 b1 0 77 (Array.toList (#[.slice ka (rDrop m.e n).length kc, .slice za2 A.length zc2])) _ (blk_range (ST9.out.blkAt 0 rfl)) Try.underlying77 rfl Try.infoRPeers)
          have LA : Hid ((asAddr (.pointer (some ⟨b1, 0, none⟩))).run Try.prog wa12 = .ok ⟨b1, 0, none⟩ wa12) := Lib.hid (by simp [go_sem])
          go_wp2_with fail
          refine bodyPost_ret (v := .tuple #[.agg (#[.slice ka (rDrop m.e n).length kc, .slice za2 A.length zc2]), .bool true]) (by simp [results, Try.results30, Sem.run_bind, Result.andThen_ok, LL.out, LA.out]) rfl ?_
          exact ⟨⟨ka, kc, za2, zc2⟩, rfl, ST9.out.out (List.nil_sublist _) (inC (at_ 1 rfl) (inC (at_ 0 rfl) inN))⟩
      · go_wp2_with fail
        obtain ⟨wa7, hw_⟩ : ∃ x, x = wa6.alloc (.cells #[.int .i64 n] 3) := ⟨_, rfl⟩
        obtain ⟨e9, he_⟩ : ∃ b, b = wa6.heap.size := ⟨_, rfl⟩
        rw [← hw_, ← he_]
        have ST4 := Lib.hid (show Sta W O (.pointer none) [] [⟨b1, rpeZ, 77⟩, ⟨b0, m.rarr x, 77⟩] [⟨3, 1, .slice (some ⟨e9, 0, none⟩) 1 1, 1, [.int .i64 n]⟩] (⟨ka, (rDrop m.e n).length, kc, ints (rDrop m.e n)⟩ :: prows m x []) wa7 from hw_ ▸ ST3.out.ownNew ((Fr.refl _ _).alloc _) (xs := [.int .i64 n]) (n := 1) (by rw [heap_alloc_if, if_pos he_]) (Nat.le_of_eq he_.symm) rfl (by decide))
        clear ST3 hw_ he_
        refine ⟨⟨⟨wa7, ST4.out.blkAt 1 rfl⟩, rfl⟩, ?_⟩
        refine wpVM_e (by simp only [List.getElem?_toArray, List.getElem?_cons_succ, List.getElem?_cons_zero] <;> rfl) (by rfl) ?_
        go_wp2_with fail
        obtain ⟨wa8, hw_⟩ : ∃ x, x = wa7.alloc (.cells #[] 3) := ⟨_, rfl⟩
        obtain ⟨e4, he_⟩ : ∃ b, b = wa7.heap.size := ⟨_, rfl⟩
        rw [← hw_, ← he_]
        have ST5 := Lib.hid (show Sta W O (.pointer none) [] [⟨b1, rpeZ, 77⟩, ⟨b0, m.rarr x, 77⟩] [⟨3, 1, .slice (some ⟨e4, 0, none⟩) 0 0, 0, []⟩, ⟨3, 1, .slice (some ⟨e9, 0, none⟩) 1 1, 1, [.int .i64 n]⟩] (⟨ka, (rDrop m.e n).length, kc, ints (rDrop m.e n)⟩ :: prows m x []) wa8 from hw_ ▸ ST4.out.ownNew ((Fr.refl _ _).alloc _) (xs := []) (n := 0) (by rw [heap_alloc_if, if_pos he_]) (Nat.le_of_eq he_.symm) rfl (by decide))
        clear ST4 hw_ he_
        refine ⟨⟨⟨wa8, ST5.out.blkAt 1 rfl⟩, rfl⟩, ?_⟩
        refine wpVM_e (by simp only [List.getElem?_toArray, List.getElem?_cons_succ, List.getElem?_cons_zero] <;> rfl) (by rfl) ?_
        refine wpList_growI (by rfl) _ _ (by rfl) ST5.out 0 rfl (ST5.out.rowAt 2 rfl) (by rfl) (by rfl) (by have := HF.out.e; have := HF.out.z; omega) ?_
        intro v7 wa9 hst
        refine wpList_nil ?_
        have ST6 := Lib.hid (show Sta W O (.pointer none) [] [⟨b1, rpeZ, 77⟩, ⟨b0, m.rarr x, 77⟩] [⟨3, 1, v7, 0 + m.z.length, [] ++ ints m.z⟩, ⟨3, 1, .slice (some ⟨e9, 0, none⟩) 1 1, 1, [.int .i64 n]⟩] (⟨ka, (rDrop m.e n).length, kc, ints (rDrop m.e n)⟩ :: prows m x []) wa9 from hst)
        clear hst ST5
        refine ⟨⟨⟨wa9, ST6.out.blkAt 1 rfl⟩, rfl⟩, ?_⟩
        simp only [Act.put, List.setIfInBounds_toArray, List.set_cons_succ, List.set_cons_zero]
        refine wpVM_e (by simp only [List.getElem?_toArray, List.getElem?_cons_succ, List.getElem?_cons_zero] <;> rfl) (by rfl) ?_
        refine wpList_growT (by rfl) _ _ 25 3 1 8 (.int .i64 0) Try.underlying25 Try.infoint rfl (by decide) (by decide) (by rfl) ST6.out 0 rfl (by rfl) (by rfl) (own_add (ST6.out.ownAt 1 rfl)) (by rfl) (by rfl) (by have := HF.out.e; have := HF.out.z; omega) ?_
        intro v10 wa10 hst
        refine wpList_nil ?_
        have ST7 := Lib.hid (show Sta W O (.pointer none) [] [⟨b1, rpeZ, 77⟩, ⟨b0, m.rarr x, 77⟩] [⟨3, 1, v10, 0 + m.z.length + 1, [] ++ ints m.z ++ [.int .i64 n]⟩, ⟨3, 1, .slice (some ⟨e9, 0, none⟩) 1 1, 1, [.int .i64 n]⟩] (⟨ka, (rDrop m.e n).length, kc, ints (rDrop m.e n)⟩ :: prows m x []) wa10 from hst)
        clear hst ST6
        obtain ⟨za2, zc2, rfl, hst⟩ := ST7.out.asRow 0 rfl
        have hrr : 0 + m.z.length + 1 = A.length ∧ [] ++ ints m.z ++ [Value.int .i64 n] = ints A := by rw [HA.out]; constructor <;> simp
        rw [hrr.1, hrr.2] at hst
        rw [hrr.1]
        have ST8 := Lib.hid (show Sta W O (.pointer none) [] [⟨b1, rpeZ, 77⟩, ⟨b0, m.rarr x, 77⟩] [⟨3, 1, .slice (some ⟨e9, 0, none⟩) 1 1, 1, [.int .i64 n]⟩] (⟨za2, A.length, zc2, ints A⟩ :: ⟨ka, (rDrop m.e n).length, kc, ints (rDrop m.e n)⟩ :: prows m x []) wa10 from hst)
        clear hst hrr ST7
        refine ⟨⟨⟨wa10, ST8.out.blkAt 1 rfl⟩, rfl⟩, ?_⟩
        simp only [Act.put, List.setIfInBounds_toArray, List.set_cons_succ, List.set_cons_zero]
        refine wpVM_q (by simp only [List.getElem?_toArray, List.getElem?_cons_succ, List.getElem?_cons_zero] <;> rfl) (by rfl) (by rfl) ?_
        go_big_quiet_step (fail)
        refine wpQuiet_nil ?_
        refine wpVM_e (by simp only [List.getElem?_toArray, List.getElem?_cons_succ, List.getElem?_cons_zero] <;> rfl) (by rfl) ?_
        refine wpList_storeW (vs := #[.slice ka (rDrop m.e n).length kc, .slice za2 A.length zc2]) (ST8.out.blkAt 0 rfl) (by rfl) 77 _ _ (by rfl) (by rfl) (by rfl) rfl Try.infoRPeers (by rw [← Array.all_toList]; rfl) ?_
        intro wa12 f_ b_
        have ST9 := Lib.hid (show Sta W O (.pointer none) [] [⟨b1, #[.slice ka (rDrop m.e n).length kc, .slice za2 A.length zc2], 77⟩, ⟨b0, m.rarr x, 77⟩] [⟨3, 1, .slice (some ⟨e9, 0, none⟩) 1 1, 1, [.int .i64 n]⟩] (⟨za2, A.length, zc2, ints A⟩ :: ⟨ka, (rDrop m.e n).length, kc, ints (rDrop m.e n)⟩ :: prows m x []) wa12 from ST8.out.store 0 rfl f_ b_)
        clear ST8 f_ b_
        refine wpList_nil ?_
        refine ⟨⟨⟨wa12, ST9.out.blkAt 1 rfl⟩, rfl⟩, ?_⟩
        simp only [Act.put]
        refine wpVM_e (by simp only [List.getElem?_toArray, List.getElem?_cons_succ, List.getElem?_cons_zero] <;> rfl) (by rfl) ?_
        go_wp2_with fail
        refine ⟨⟨⟨wa12, ST9.out.blkAt 1 rfl⟩, rfl⟩, ?_⟩
        refine wpVM_done ?_
        clear q0 q1
        have LL : Hid ((loadVar 77 ⟨b1, 0, none⟩).run Try.prog wa12 = .ok (.agg (#[.slice ka (rDrop m.e n).length kc, .slice za2 A.length zc2])) wa12) := Lib.hid (run_loadVar_mid wa12 b1 0 77 (Array.toList (#[.slice ka (rDrop m.e n).length kc, .slice za2 A.length zc2])) _ (blk_range (ST9.out.blkAt 0 rfl)) Try.underlying77 rfl Try.infoRPeers)
        have LA : Hid ((asAddr (.pointer (some ⟨b1, 0, none⟩))).run Try.prog wa12 = .ok ⟨b1, 0, none⟩ wa12) := Lib.hid (by simp [go_sem])
        go_wp2_with fail
        refine bodyPost_ret (v := .tuple #[.agg (#[.slice ka (rDrop m.e n).length kc, .slice za2 A.length zc2]), .bool true]) (by simp [results, Try.results30, Sem.run_bind, Result.andThen_ok, LL.out, LA.out]) rfl ?_
        exact ⟨⟨ka, kc, za2, zc2⟩, rfl, ST9.out.out (List.nil_sublist _) (inC (at_ 1 rfl) (inC (at_ 0 rfl) inN))⟩
    · go_wp2_with fail
      obtain ⟨wa6, hw_⟩ : ∃ x, x = wd.alloc (.cells #[] 3) := ⟨_, rfl⟩
      obtain ⟨e4, he_⟩ : ∃ b, b = wd.heap.size := ⟨_, rfl⟩
      rw [← hw_, ← he_]
      have ST3 := Lib.hid (show Sta W O (.pointer none) [] [⟨b1, rpeZ, 77⟩, ⟨b0, m.rarr x, 77⟩] [⟨3, 1, .slice (some ⟨e4, 0, none⟩) 0 0, 0, []⟩] (prows m x []) wa6 from hw_ ▸ ST2.out.ownNew ((Fr.refl _ _).alloc _) (xs := []) (n := 0) (by rw [heap_alloc_if, if_pos he_]) (Nat.le_of_eq he_.symm) rfl (by decide))
      clear ST2 hw_ he_
      refine ⟨⟨⟨wa6, ST3.out.blkAt 1 rfl⟩, rfl⟩, ?_⟩
      refine wpVM_fork (by simp only [List.getElem?_toArray, List.getElem?_cons_succ, List.getElem?_cons_zero] <;> rfl) (by simp only [List.getElem?_toArray, List.getElem?_cons_succ, List.getElem?_cons_zero] <;> rfl) ?_ ?_
      · go_wp2_with fail
        refine (CDE.out _ (ST3.out.rowAt 0 rfl)).mono ?_
        intro e wa7 hst
        obtain ⟨ka, kc, rfl, hst2⟩ := ST3.out.callNew hst
        have ST4 := Lib.hid (show Sta W O (.pointer none) [] [⟨b1, rpeZ, 77⟩, ⟨b0, m.rarr x, 77⟩] [⟨3, 1, .slice (some ⟨e4, 0, none⟩) 0 0, 0, []⟩] (⟨ka, (rDrop m.e n).length, kc, ints (rDrop m.e n)⟩ :: prows m x []) wa7 from hst2)
        clear hst hst2 ST3
        go_wp2_with fail
        refine ⟨⟨⟨wa7, ST4.out.blkAt 1 rfl⟩, rfl⟩, ?_⟩
        refine wpVM_fork (by simp only [List.getElem?_toArray, List.getElem?_cons_succ, List.getElem?_cons_zero] <;> rfl) (by simp only [List.getElem?_toArray, List.getElem?_cons_succ, List.getElem?_cons_zero] <;> rfl) ?_ ?_
        · refine wpList_growI (by rfl) _ _ (by rfl) ST4.out 0 rfl (ST4.out.rowAt 2 rfl) (by rfl) (by rfl) (by have := HF.out.e; have := HF.out.z; omega) ?_
          intro v7 wa8 hst
          refine wpList_nil ?_
          have ST5 := Lib.hid (show Sta W O (.pointer none) [] [⟨b1, rpeZ, 77⟩, ⟨b0, m.rarr x, 77⟩] [⟨3, 1, v7, 0 + m.z.length, [] ++ ints m.z⟩] (⟨ka, (rDrop m.e n).length, kc, ints (rDrop m.e n)⟩ :: prows m x []) wa8 from hst)
          clear hst ST4
          refine ⟨⟨⟨wa8, ST5.out.blkAt 1 rfl⟩, rfl⟩, ?_⟩
          simp only [Act.put, List.setIfInBounds_toArray, List.set_cons_succ, List.set_cons_zero]
          refine wpVM_e (by simp only [List.getElem?_toArray, List.getElem?_cons_succ, List.getElem?_cons_zero] <;> rfl) (by rfl) ?_
          go_wp2_with fail
          obtain ⟨wa9, hw_⟩ : ∃ x, x = wa8.alloc (.cells #[.int .i64 n] 3) := ⟨_, rfl⟩
          obtain ⟨e9, he_⟩ : ∃ b, b = wa8.heap.size := ⟨_, rfl⟩
          rw [← hw_, ← he_]
          have ST6 := Lib.hid (show Sta W O (.pointer none) [] [⟨b1, rpeZ, 77⟩, ⟨b0, m.rarr x, 77⟩] [⟨3, 1, .slice (some ⟨e9, 0, none⟩) 1 1, 1, [.int .i64 n]⟩, ⟨3, 1, v7, 0 + m.z.length, [] ++ ints m.z⟩] (⟨ka, (rDrop m.e n).length, kc, ints (rDrop m.e n)⟩ :: prows m x []) wa9 from hw_ ▸ ST5.out.ownNew ((Fr.refl _ _).alloc _) (xs := [.int .i64 n]) (n := 1) (by rw [heap_alloc_if, if_pos he_]) (Nat.le_of_eq he_.symm) rfl (by decide))
          clear ST5 hw_ he_
          refine ⟨⟨⟨wa9, ST6.out.blkAt 1 rfl⟩, rfl⟩, ?_⟩
          refine wpVM_e (by simp only [List.getElem?_toArray, List.getElem?_cons_succ, List.getElem?_cons_zero] <;> rfl) (by rfl) ?_
          refine wpList_growT (by rfl) _ _ 25 3 1 8 (.int .i64 0) Try.underlying25 Try.infoint rfl (by decide) (by decide) (by rfl) ST6.out 1 rfl (by rfl) (by rfl) (own_add (ST6.out.ownAt 0 rfl)) (by rfl) (by rfl) (by have := HF.out.e; have := HF.out.z; omega) ?_
          intro v10 wa10 hst
          refine wpList_nil ?_
          have ST7 := Lib.hid (show Sta W O (.pointer none) [] [⟨b1, rpeZ, 77⟩, ⟨b0, m.rarr x, 77⟩] [⟨3, 1, .slice (some ⟨e9, 0, none⟩) 1 1, 1, [.int .i64 n]⟩, ⟨3, 1, v10, 0 + m.z.length + 1, [] ++ ints m.z ++ [.int .i64 n]⟩] (⟨ka, (rDrop m.e n).length, kc, ints (rDrop m.e n)⟩ :: prows m x []) wa10 from hst)
          clear hst ST6
          obtain ⟨za2, zc2, rfl, hst⟩ := ST7.out.asRow 1 rfl
          have hrr : 0 + m.z.length + 1 = A.length ∧ [] ++ ints m.z ++ [Value.int .i64 n] = ints A := by rw [HA.out]; constructor <;> simp
          rw [hrr.1, hrr.2] at hst
          rw [hrr.1]
          have ST8 := Lib.hid (show Sta W O (.pointer none) [] [⟨b1, rpeZ, 77⟩, ⟨b0, m.rarr x, 77⟩] [⟨3, 1, .slice (some ⟨e9, 0, none⟩) 1 1, 1, [.int .i64 n]⟩] (⟨za2, A.length, zc2, ints A⟩ :: ⟨ka, (rDrop m.e n).length, kc, ints (rDrop m.e n)⟩ :: prows m x []) wa10 from hst)
          clear hst hrr ST7
          refine ⟨⟨⟨wa10, ST8.out.blkAt 1 rfl⟩, rfl⟩, ?_⟩
          simp only [Act.put, List.setIfInBounds_toArray, List.set_cons_succ, List.set_cons_zero]
          refine wpVM_q (by simp only [List.getElem?_toArray, List.getElem?_cons_succ, List.getElem?_cons_zero] <;> rfl) (by rfl) (by rfl) ?_
          go_big_quiet_step (fail)
          refine wpQuiet_nil ?_
          refine wpVM_e (by simp only [List.getElem?_toArray, List.getElem?_cons_succ, List.getElem?_cons_zero] <;> rfl) (by rfl) ?_
          refine wpList_storeW (vs := #[.slice ka (rDrop m.e n).length kc, .slice za2 A.length zc2]) (ST8.out.blkAt 0 rfl) (by rfl) 77 _ _ (by rfl) (by rfl) (by rfl) rfl Try.infoRPeers (by rw [← Array.all_toList]; rfl) ?_
          intro wa12 f_ b_
          have ST9 := Lib.hid (show Sta W O (.pointer none) [] [⟨b1, #[.slice ka (rDrop m.e n).length kc, .slice za2 A.length zc2], 77⟩, ⟨b0, m.rarr x, 77⟩] [⟨3, 1, .slice (some ⟨e9, 0, none⟩) 1 1, 1, [.int .i64 n]⟩] (⟨za2, A.length, zc2, ints A⟩ :: ⟨ka, (rDrop m.e n).length, kc, ints (rDrop m.e n)⟩ :: prows m x []) wa12 from ST8.out.store 0 rfl f_ b_)
          clear ST8 f_ b_
          refine wpList_nil ?_
          refine ⟨⟨⟨wa12, ST9.out.blkAt 1 rfl⟩, rfl⟩, ?_⟩
          simp only [Act.put]
          refine wpVM_e (by simp only [List.getElem?_toArray, List.getElem?_cons_succ, List.getElem?_cons_zero] <;> rfl) (by rfl) ?_
          go_wp2_with fail
          refine ⟨⟨⟨wa12, ST9.out.blkAt 1 rfl⟩, rfl⟩, ?_⟩
          refine wpVM_done ?_
          clear q0 q1
          have LL : Hid ((loadVar 77 ⟨b1, 0, none⟩).run Try.prog wa12 = .ok (.agg (#[.slice ka (rDrop m.e n).length kc, .slice za2 A.length zc2])) wa12) := Lib.hid (run_loadVar_mid wa12 b1 0 77 (Array.toList (#[.slice ka (rDrop m.e n).length kc, .slice za2 A.length zc2])) _ (blk_range (ST9.out.blkAt 0 rfl)) Try.underlying77 rfl Try.infoRPeers)
          have LA : Hid ((asAddr (.pointer (some ⟨b1, 0, none⟩))).run Try.prog wa12 = .ok ⟨b1, 0, none⟩ wa12) := Lib.hid (by simp [go_sem])
          go_wp2_with fail
          refine bodyPost_ret (v := .tuple #[.agg (#[.slice ka (rDrop m.e n).length kc, .slice za2 A.length zc2]), .bool true]) (by simp [results, Try.results30, Sem.run_bind, Result.andThen_ok, LL.out, LA.out]) rfl ?_
          exact ⟨⟨ka, kc, za2, zc2⟩, rfl, ST9.out.out (List.nil_sublist _) (inC (at_ 1 rfl) (inC (at_ 0 rfl) inN))⟩
        · go_wp2_with fail
          obtain ⟨wa8, hw_⟩ : ∃ x, x = wa7.alloc (.cells #[.int .i64 n] 3) := ⟨_, rfl⟩
          obtain ⟨e9, he_⟩ : ∃ b, b = wa7.heap.size := ⟨_, rfl⟩
          rw [← hw_, ← he_]
          have ST5 := Lib.hid (show Sta W O (.pointer none) [] [⟨b1, rpeZ, 77⟩, ⟨b0, m.rarr x, 77⟩] [⟨3, 1, .slice (some ⟨e9, 0, none⟩) 1 1, 1, [.int .i64 n]⟩, ⟨3, 1, .slice (some ⟨e4, 0, none⟩) 0 0, 0, []⟩] (⟨ka, (rDrop m.e n).length, kc, ints (rDrop m.e n)⟩ :: prows m x []) wa8 from hw_ ▸ ST4.out.ownNew ((Fr.refl _ _).alloc _) (xs := [.int .i64 n]) (n := 1) (by rw [heap_alloc_if, if_pos he_]) (Nat.le_of_eq he_.symm) rfl (by decide))
          clear ST4 hw_ he_
          refine ⟨⟨⟨wa8, ST5.out.blkAt 1 rfl⟩, rfl⟩, ?_⟩
          refine wpVM_e (by simp only [List.getElem?_toArray, List.getElem?_cons_succ, List.getElem?_cons_zero] <;> rfl) (by rfl) ?_
          refine wpList_growI (by rfl) _ _ (by rfl) ST5.out 1 rfl (ST5.out.rowAt 2 rfl) (by rfl) (by rfl) (by have := HF.out.e; have := HF.out.z; omega) ?_
          intro v7 wa9 hst
          refine wpList_nil ?_
          have ST6 := Lib.hid (show Sta W O (.pointer none) [] [⟨b1, rpeZ, 77⟩, ⟨b0, m.rarr x, 77⟩] [⟨3, 1, .slice (some ⟨e9, 0, none⟩) 1 1, 1, [.int .i64 n]⟩, ⟨3, 1, v7, 0 + m.z.length, [] ++ ints m.z⟩] (⟨ka, (rDrop m.e n).length, kc, ints (rDrop m.e n)⟩ :: prows m x []) wa9 from hst)
          clear hst ST5
          refine ⟨⟨⟨wa9, ST6.out.blkAt 1 rfl⟩, rfl⟩, ?_⟩
          simp only [Act.put, List.setIfInBounds_toArray, List.set_cons_succ, List.set_cons_zero]
          refine wpVM_e (by simp only [List.getElem?_toArray, List.getElem?_cons_succ, List.getElem?_cons_zero] <;> rfl) (by rfl) ?_
          refine wpList_growT (by rfl) _ _ 25 3 1 8 (.int .i64 0) Try.underlying25 Try.infoint rfl (by decide) (by decide) (by rfl) ST6.out 1 rfl (by rfl) (by rfl) (own_add (ST6.out.ownAt 0 rfl)) (by rfl) (by rfl) (by have := HF.out.e; have := HF.out.z; omega) ?_
          intro v10 wa10 hst
          refine wpList_nil ?_
          have ST7 := Lib.hid (show Sta W O (.pointer none) [] [⟨b1, rpeZ, 77⟩, ⟨b0, m.rarr x, 77⟩] [⟨3, 1, .slice (some ⟨e9, 0, none⟩) 1 1, 1, [.int .i64 n]⟩, ⟨3, 1, v10, 0 + m.z.length + 1, [] ++ ints m.z ++ [.int .i64 n]⟩] (⟨ka, (rDrop m.e n).length, kc, ints (rDrop m.e n)⟩ :: prows m x []) wa10 from hst)
          clear hst ST6
          obtain ⟨za2, zc2, rfl, hst⟩ := ST7.out.asRow 1 rfl
          have hrr : 0 + m.z.length + 1 = A.length ∧ [] ++ ints m.z ++ [Value.int .i64 n] = ints A := by rw [HA.out]; constructor <;> simp
          rw [hrr.1, hrr.2] at hst
          rw [hrr.1]
          have ST8 := Lib.hid (show Sta W O (.pointer none) [] [⟨b1, rpeZ, 77⟩, ⟨b0, m.rarr x, 77⟩] [⟨3, 1, .slice (some ⟨e9, 0, none⟩) 1 1, 1, [.int .i64 n]⟩] (⟨za2, A.length, zc2, ints A⟩ :: ⟨ka, (rDrop m.e n).length, kc, ints (rDrop m.e n)⟩ :: prows m x []) wa10 from hst)
          clear hst hrr ST7
          refine ⟨⟨⟨wa10, ST8.out.blkAt 1 rfl⟩, rfl⟩, ?_⟩
          simp only [Act.put, List.setIfInBounds_toArray, List.set_cons_succ, List.set_cons_zero]
          refine wpVM_q (by simp only [List.getElem?_toArray, List.getElem?_cons_succ, List.getElem?_cons_zero] <;> rfl) (by rfl) (by rfl) ?_
          go_big_quiet_step (fail)
          refine wpQuiet_nil ?_
          refine wpVM_e (by simp only [List.getElem?_toArray, List.getElem?_cons_succ, List.getElem?_cons_zero] <;> rfl) (by rfl) ?_
          refine wpList_storeW (vs := #[.slice ka (rDrop m.e n).length kc, .slice za2 A.length zc2]) (ST8.out.blkAt 0 rfl) (by rfl) 77 _ _ (by rfl) (by rfl) (by rfl) rfl Try.infoRPeers (by rw [← Array.all_toList]; rfl) ?_
          intro wa12 f_ b_
          have ST9 := Lib.hid (show Sta W O (.pointer none) [] [⟨b1, #[.slice ka (rDrop m.e n).length kc, .slice za2 A.length zc2], 77⟩, ⟨b0, m.rarr x, 77⟩] [⟨3, 1, .slice (some ⟨e9, 0, none⟩) 1 1, 1, [.int .i64 n]⟩] (⟨za2, A.length, zc2, ints A⟩ :: ⟨ka, (rDrop m.e n).length, kc, ints (rDrop m.e n)⟩ :: prows m x []) wa12 from ST8.out.store 0 rfl f_ b_)
          clear ST8 f_ b_
          refine wpList_nil ?_
          refine ⟨⟨⟨wa12, ST9.out.blkAt 1 rfl⟩, rfl⟩, ?_⟩
          simp only [Act.put]
          refine wpVM_e (by simp only [List.getElem?_toArray, List.getElem?_cons_succ, List.getElem?_cons_zero] <;> rfl) (by rfl) ?_
          go_wp2_with fail
          refine ⟨⟨⟨wa12, ST9.out.blkAt 1 rfl⟩, rfl⟩, ?_⟩
          refine wpVM_done ?_
          clear q0 q1
          have LL : Hid ((loadVar 77 ⟨b1, 0, none⟩).run Try.prog wa12 = .ok (.agg (#[.slice ka (rDrop m.e n).length kc, .slice za2 A.length zc2])) wa12) := Lib.hid (run_loadVar_mid wa12 b1 0 77 (Array.toList (#[.slice ka (rDrop m.e n).length kc, .slice za2 A.length zc2])) _ (blk_range (ST9.out.blkAt 0 rfl)) Try.underlying77 rfl Try.infoRPeers)
          have LA : Hid ((asAddr (.pointer (some ⟨b1, 0, none⟩))).run Try.prog wa12 = .ok ⟨b1, 0, none⟩ wa12) := Lib.hid (by simp [go_sem])
          go_wp2_with fail
          refine bodyPost_ret (v := .tuple #[.agg (#[.slice ka (rDrop m.e n).length kc, .slice za2 A.length zc2]), .bool true]) (by simp [results, Try.results30, Sem.run_bind, Result.andThen_ok, LL.out, LA.out]) rfl ?_
          exact ⟨⟨ka, kc, za2, zc2⟩, rfl, ST9.out.out (List.nil_sublist _) (inC (at_ 1 rfl) (inC (at_ 0 rfl) inN))⟩
      · go_wp2_with fail
        obtain ⟨wa7, hw_⟩ : ∃ x, x = wa6.alloc (.cells #[.int .i64 n] 3) := ⟨_, rfl⟩
        obtain ⟨e9, he_⟩ : ∃ b, b = wa6.heap.size := ⟨_, rfl⟩
        rw [← hw_, ← he_]
        have ST4 := Lib.hid (show Sta W O (.pointer none) [] [⟨b1, rpeZ, 77⟩, ⟨b0, m.rarr x, 77⟩] [⟨3, 1, .slice (some ⟨e9, 0, none⟩) 1 1, 1, [.int .i64 n]⟩, ⟨3, 1, .slice (some ⟨e4, 0, none⟩) 0 0, 0, []⟩] (prows m x []) wa7 from hw_ ▸ ST3.out.ownNew ((Fr.refl _ _).alloc _) (xs := [.int .i64 n]) (n := 1) (by rw [heap_alloc_if, if_pos he_]) (Nat.le_of_eq he_.symm) rfl (by decide))
        clear ST3 hw_ he_
        refine ⟨⟨⟨wa7, ST4.out.blkAt 1 rfl⟩, rfl⟩, ?_⟩
        refine wpVM_e (by simp only [List.getElem?_toArray, List.getElem?_cons_succ, List.getElem?_cons_zero] <;> rfl) (by rfl) ?_
        go_wp2_with fail
        refine (CDE.out _ (ST4.out.rowAt 0 rfl)).mono ?_
        intro e wa8 hst
        obtain ⟨ka, kc, rfl, hst2⟩ := ST4.out.callNew hst
        have ST5 := Lib.hid (show Sta W O (.pointer none) [] [⟨b1, rpeZ, 77⟩, ⟨b0, m.rarr x, 77⟩] [⟨3, 1, .slice (some ⟨e9, 0, none⟩) 1 1, 1, [.int .i64 n]⟩, ⟨3, 1, .slice (some ⟨e4, 0, none⟩) 0 0, 0, []⟩] (⟨ka, (rDrop m.e n).length, kc, ints (rDrop m.e n)⟩ :: prows m x []) wa8 from hst2)
        clear hst hst2 ST4
        go_wp2_with fail
        refine ⟨⟨⟨wa8, ST5.out.blkAt 1 rfl⟩, rfl⟩, ?_⟩
        refine wpVM_e (by simp only [List.getElem?_toArray, List.getElem?_cons_succ, List.getElem?_cons_zero] <;> rfl) (by rfl) ?_
        refine wpList_growI (by rfl) _ _ (by rfl) ST5.out 1 rfl (ST5.out.rowAt 2 rfl) (by rfl) (by rfl) (by have := HF.out.e; have := HF.out.z; omega) ?_
        intro v7 wa9 hst
        refine wpList_nil ?_
        have ST6 := Lib.hid (show Sta W O (.pointer none) [] [⟨b1, rpeZ, 77⟩, ⟨b0, m.rarr x, 77⟩] [⟨3, 1, .slice (some ⟨e9, 0, none⟩) 1 1, 1, [.int .i64 n]⟩, ⟨3, 1, v7, 0 + m.z.length, [] ++ ints m.z⟩] (⟨ka, (rDrop m.e n).length, kc, ints (rDrop m.e n)⟩ :: prows m x []) wa9 from hst)
        clear hst ST5
        refine ⟨⟨⟨wa9, ST6.out.blkAt 1 rfl⟩, rfl⟩, ?_⟩
        simp only [Act.put, List.setIfInBounds_toArray, List.set_cons_succ, List.set_cons_zero]
        refine wpVM_e (by simp only [List.getElem?_toArray, List.getElem?_cons_succ, List.getElem?_cons_zero] <;> rfl) (by rfl) ?_
        refine wpList_growT (by rfl) _ _ 25 3 1 8 (.int .i64 0) Try.underlying25 Try.infoint rfl (by decide) (by decide) (by rfl) ST6.out 1 rfl (by rfl) (by rfl) (own_add (ST6.out.ownAt 0 rfl)) (by rfl) (by rfl) (by have := HF.out.e; have := HF.out.z; omega) ?_
        intro v10 wa10 hst
        refine wpList_nil ?_
        have ST7 := Lib.hid (show Sta W O (.pointer none) [] [⟨b1, rpeZ, 77⟩, ⟨b0, m.rarr x, 77⟩] [⟨3, 1, .slice (some ⟨e9, 0, none⟩) 1 1, 1, [.int .i64 n]⟩, ⟨3, 1, v10, 0 + m.z.length + 1, [] ++ ints m.z ++ [.int .i64 n]⟩] (⟨ka, (rDrop m.e n).length, kc, ints (rDrop m.e n)⟩ :: prows m x []) wa10 from hst)
        clear hst ST6
        obtain ⟨za2, zc2, rfl, hst⟩ := ST7.out.asRow 1 rfl
        have hrr : 0 + m.z.length + 1 = A.length ∧ [] ++ ints m.z ++ [Value.int .i64 n] = ints A := by rw [HA.out]; constructor <;> simp
        rw [hrr.1, hrr.2] at hst
        rw [hrr.1]
        have ST8 := Lib.hid (show Sta W O (.pointer none) [] [⟨b1, rpeZ, 77⟩, ⟨b0, m.rarr x, 77⟩] [⟨3, 1, .slice (some ⟨e9, 0, none⟩) 1 1, 1, [.int .i64 n]⟩] (⟨za2, A.length, zc2, ints A⟩ :: ⟨ka, (rDrop m.e n).length, kc, ints (rDrop m.e n)⟩ :: prows m x []) wa10 from hst)
        clear hst hrr ST7
        refine ⟨⟨⟨wa10, ST8.out.blkAt 1 rfl⟩, rfl⟩, ?_⟩
        simp only [Act.put, List.setIfInBounds_toArray, List.set_cons_succ, List.set_cons_zero]
        refine wpVM_q (by simp only [List.getElem?_toArray, List.getElem?_cons_succ, List.getElem?_cons_zero] <;> rfl) (by rfl) (by rfl) ?_
        go_big_quiet_step (fail)
        refine wpQuiet_nil ?_
        refine wpVM_e (by simp only [List.getElem?_toArray, List.getElem?_cons_succ, List.getElem?_cons_zero] <;> rfl) (by rfl) ?_
        refine wpList_storeW (vs := #[.slice ka (rDrop m.e n).length kc, .slice za2 A.length zc2]) (ST8.out.blkAt 0 rfl) (by rfl) 77 _ _ (by rfl) (by rfl) (by rfl) rfl Try.infoRPeers (by rw [← Array.all_toList]; rfl) ?_
        intro wa12 f_ b_
        have ST9 := Lib.hid (show Sta W O (.pointer none) [] [⟨b1, #[.slice ka (rDrop m.e n).length kc, .slice za2 A.length zc2], 77⟩, ⟨b0, m.rarr x, 77⟩] [⟨3, 1, .slice (some ⟨e9, 0, none⟩) 1 1, 1, [.int .i64 n]⟩] (⟨za2, A.length, zc2, ints A⟩ :: ⟨ka, (rDrop m.e n).length, kc, ints (rDrop m.e n)⟩ :: prows m x []) wa12 from ST8.out.store 0 rfl f_ b_)
        clear ST8 f_ b_
        refine wpList_nil ?_
        refine ⟨⟨⟨wa12, ST9.out.blkAt 1 rfl⟩, rfl⟩, ?_⟩
        simp only [Act.put]
        refine wpVM_e (by simp only [List.getElem?_toArray, List.getElem?_cons_succ, List.getElem?_cons_zero] <;> rfl) (by rfl) ?_
        go_wp2_with fail
        refine ⟨⟨⟨wa12, ST9.out.blkAt 1 rfl⟩, rfl⟩, ?_⟩
        refine wpVM_done ?_
        clear q0 q1
        have LL : Hid ((loadVar 77 ⟨b1, 0, none⟩).run Try.prog wa12 = .ok (.agg (#[.slice ka (rDrop m.e n).length kc, .slice za2 A.length zc2])) wa12) := Lib.hid (run_loadVar_mid wa12 b1 0 77 (Array.toList (#[.slice ka (rDrop m.e n).length kc, .slice za2 A.length zc2])) _ (blk_range (ST9.out.blkAt 0 rfl)) Try.underlying77 rfl Try.infoRPeers)
        have LA : Hid ((asAddr (.pointer (some ⟨b1, 0, none⟩))).run Try.prog wa12 = .ok ⟨b1, 0, none⟩ wa12) := Lib.hid (by simp [go_sem])
        go_wp2_with fail
        refine bodyPost_ret (v := .tuple #[.agg (#[.slice ka (rDrop m.e n).length kc, .slice za2 A.length zc2]), .bool true]) (by simp [results, Try.results30, Sem.run_bind, Result.andThen_ok, LL.out, LA.out]) rfl ?_
        exact ⟨⟨ka, kc, za2, zc2⟩, rfl, ST9.out.out (List.nil_sublist _) (inC (at_ 1 rfl) (inC (at_ 0 rfl) inN))⟩
    · go_wp2_with fail
      obtain ⟨wa6, hw_⟩ : ∃ x, x = wd.alloc (.cells #[.int .i64 n] 3) := ⟨_, rfl⟩
      obtain ⟨e9, he_⟩ : ∃ b, b = wd.heap.size := ⟨_, rfl⟩
      rw [← hw_, ← he_]
      have ST3 := Lib.hid (show Sta W O (.pointer none) [] [⟨b1, rpeZ, 77⟩, ⟨b0, m.rarr x, 77⟩] [⟨3, 1, .slice (some ⟨e9, 0, none⟩) 1 1, 1, [.int .i64 n]⟩] (prows m x []) wa6 from hw_ ▸ ST2.out.ownNew ((Fr.refl _ _).alloc _) (xs := [.int .i64 n]) (n := 1) (by rw [heap_alloc_if, if_pos he_]) (Nat.le_of_eq he_.symm) rfl (by decide))
      clear ST2 hw_ he_
      refine ⟨⟨⟨wa6, ST3.out.blkAt 1 rfl⟩, rfl⟩, ?_⟩
      refine wpVM_fork (by simp only [List.getElem?_toArray, List.getElem?_cons_succ, List.getElem?_cons_zero] <;> rfl) (by simp only [List.getElem?_toArray, List.getElem?_cons_succ, List.getElem?_cons_zero] <;> rfl) ?_ ?_
      · go_wp2_with fail
        refine (CDE.out _ (ST3.out.rowAt 0 rfl)).mono ?_
        intro e wa7 hst
        obtain ⟨ka, kc, rfl, hst2⟩ := ST3.out.callNew hst
        have ST4 := Lib.hid (show Sta W O (.pointer none) [] [⟨b1, rpeZ, 77⟩, ⟨b0, m.rarr x, 77⟩] [⟨3, 1, .slice (some ⟨e9, 0, none⟩) 1 1, 1, [.int .i64 n]⟩] (⟨ka, (rDrop m.e n).length, kc, ints (rDrop m.e n)⟩ :: prows m x []) wa7 from hst2)
        clear hst hst2 ST3
        go_wp2_with fail
        refine ⟨⟨⟨wa7, ST4.out.blkAt 1 rfl⟩, rfl⟩, ?_⟩
        refine wpVM_e (by simp only [List.getElem?_toArray, List.getElem?_cons_succ, List.getElem?_cons_zero] <;> rfl) (by rfl) ?_
        go_wp2_with fail
        obtain ⟨wa8, hw_⟩ : ∃ x, x = wa7.alloc (.cells #[] 3) := ⟨_, rfl⟩
        obtain ⟨e4, he_⟩ : ∃ b, b = wa7.heap.size := ⟨_, rfl⟩
        rw [← hw_, ← he_]
        have ST5 := Lib.hid (show Sta W O (.pointer none) [] [⟨b1, rpeZ, 77⟩, ⟨b0, m.rarr x, 77⟩] [⟨3, 1, .slice (some ⟨e4, 0, none⟩) 0 0, 0, []⟩, ⟨3, 1, .slice (some ⟨e9, 0, none⟩) 1 1, 1, [.int .i64 n]⟩] (⟨ka, (rDrop m.e n).length, kc, ints (rDrop m.e n)⟩ :: prows m x []) wa8 from hw_ ▸ ST4.out.ownNew ((Fr.refl _ _).alloc _) (xs := []) (n := 0) (by rw [heap_alloc_if, if_pos he_]) (Nat.le_of_eq he_.symm) rfl (by decide))
        clear ST4 hw_ he_
        refine ⟨⟨⟨wa8, ST5.out.blkAt 1 rfl⟩, rfl⟩, ?_⟩
        refine wpVM_e (by simp only [List.getElem?_toArray, List.getElem?_cons_succ, List.getElem?_cons_zero] <;> rfl) (by rfl) ?_
        refine wpList_growI (by rfl) _ _ (by rfl) ST5.out 0 rfl (ST5.out.rowAt 2 rfl) (by rfl) (by rfl) (by have := HF.out.e; have := HF.out.z; omega) ?_
        intro v7 wa9 hst
        refine wpList_nil ?_
        have ST6 := Lib.hid (show Sta W O (.pointer none) [] [⟨b1, rpeZ, 77⟩, ⟨b0, m.rarr x, 77⟩] [⟨3, 1, v7, 0 + m.z.length, [] ++ ints m.z⟩, ⟨3, 1, .slice (some ⟨e9, 0, none⟩) 1 1, 1, [.int .i64 n]⟩] (⟨ka, (rDrop m.e n).length, kc, ints (rDrop m.e n)⟩ :: prows m x []) wa9 from hst)
        clear hst ST5
        refine ⟨⟨⟨wa9, ST6.out.blkAt 1 rfl⟩, rfl⟩, ?_⟩
        simp only [Act.put, List.setIfInBounds_toArray, List.set_cons_succ, List.set_cons_zero]
        refine wpVM_e (by simp only [List.getElem?_toArray, List.getElem?_cons_succ, List.getElem?_cons_zero] <;> rfl) (by rfl) ?_
        refine wpList_growT (by rfl) _ _ 25 3 1 8 (.int .i64 0) Try.underlying25 Try.infoint rfl (by decide) (by decide) (by rfl) ST6.out 0 rfl (by rfl) (by rfl) (own_add (ST6.out.ownAt 1 rfl)) (by rfl) (by rfl) (by have := HF.out.e; have := HF.out.z; omega) ?_
        intro v10 wa10 hst
        refine wpList_nil ?_
        have ST7 := Lib.hid (show Sta W O (.pointer none) [] [⟨b1, rpeZ, 77⟩, ⟨b0, m.rarr x, 77⟩] [⟨3, 1, v10, 0 + m.z.length + 1, [] ++ ints m.z ++ [.int .i64 n]⟩, ⟨3, 1, .slice (some ⟨e9, 0, none⟩) 1 1, 1, [.int .i64 n]⟩] (⟨ka, (rDrop m.e n).length, kc, ints (rDrop m.e n)⟩ :: prows m x []) wa10 from hst)
        clear hst ST6
        obtain ⟨za2, zc2, rfl, hst⟩ := ST7.out.asRow 0 rfl
        have hrr : 0 + m.z.length + 1 = A.length ∧ [] ++ ints m.z ++ [Value.int .i64 n] = ints A := by rw [HA.out]; constructor <;> simp
        rw [hrr.1, hrr.2] at hst
        rw [hrr.1]
        have ST8 := Lib.hid (show Sta W O (.pointer none) [] [⟨b1, rpeZ, 77⟩, ⟨b0, m.rarr x, 77⟩] [⟨3, 1, .slice (some ⟨e9, 0, none⟩) 1 1, 1, [.int .i64 n]⟩] (⟨za2, A.length, zc2, ints A⟩ :: ⟨ka, (rDrop m.e n).length, kc, ints (rDrop m.e n)⟩ :: prows m x []) wa10 from hst)
        clear hst hrr ST7
        refine ⟨⟨⟨wa10, ST8.out.blkAt 1 rfl⟩, rfl⟩, ?_⟩
        simp only [Act.put, List.setIfInBounds_toArray, List.set_cons_succ, List.set_cons_zero]
        refine wpVM_q (by simp only [List.getElem?_toArray, List.getElem?_cons_succ, List.getElem?_cons_zero] <;> rfl) (by rfl) (by rfl) ?_
        go_big_quiet_step (fail)
        refine wpQuiet_nil ?_
        refine wpVM_e (by simp only [List.getElem?_toArray, List.getElem?_cons_succ, List.getElem?_cons_zero] <;> rfl) (by rfl) ?_
        refine wpList_storeW (vs := #[.slice ka (rDrop m.e n).length kc, .slice za2 A.length zc2]) (ST8.out.blkAt 0 rfl) (by rfl) 77 _ _ (by rfl) (by rfl) (by rfl) rfl Try.infoRPeers (by rw [← Array.all_toList]; rfl) ?_
        intro wa12 f_ b_
        have ST9 := Lib.hid (show Sta W O (.pointer none) [] [⟨b1, #[.slice ka (rDrop m.e n).length kc, .slice za2 A.length zc2], 77⟩, ⟨b0, m.rarr x, 77⟩] [⟨3, 1, .slice (some ⟨e9, 0, none⟩) 1 1, 1, [.int .i64 n]⟩] (⟨za2, A.length, zc2, ints A⟩ :: ⟨ka, (rDrop m.e n).length, kc, ints (rDrop m.e n)⟩ :: prows m x []) wa12 from ST8.out.store 0 rfl f_ b_)
        clear ST8 f_ b_
        refine wpList_nil ?_
        refine ⟨⟨⟨wa12, ST9.out.blkAt 1 rfl⟩, rfl⟩, ?_⟩
        simp only [Act.put]
        refine wpVM_e (by simp only [List.getElem?_toArray, List.getElem?_cons_succ, List.getElem?_cons_zero] <;> rfl) (by rfl) ?_
        go_wp2_with fail
        refine ⟨⟨⟨wa12, ST9.out.blkAt 1 rfl⟩, rfl⟩, ?_⟩
        refine wpVM_done ?_
        clear q0 q1
        have LL : Hid ((loadVar 77 ⟨b1, 0, none⟩).run Try.prog wa12 = .ok (.agg (#[.slice ka (rDrop m.e n).length kc, .slice za2 A.length zc2])) wa12) := Lib.hid (run_loadVar_mid wa12 b1 0 77 (Array.toList (#[.slice ka (rDrop m.e n).length kc, .slice za2 A.length zc2])) _ (blk_range (ST9.out.blkAt 0 rfl)) Try.underlying77 rfl Try.infoRPeers)
        have LA : Hid ((asAddr (.pointer (some ⟨b1, 0, none⟩))).run Try.prog wa12 = .ok ⟨b1, 0, none⟩ wa12) := Lib.hid (by simp [go_sem])
        go_wp2_with fail
        refine bodyPost_ret (v := .tuple #[.agg (#[.slice ka (rDrop m.e n).length kc, .slice za2 A.length zc2]), .bool true]) (by simp [results, Try.results30, Sem.run_bind, Result.andThen_ok, LL.out, LA.out]) rfl ?_
        exact ⟨⟨ka, kc, za2, zc2⟩, rfl, ST9.out.out (List.nil_sublist _) (inC (at_ 1 rfl) (inC (at_ 0 rfl) inN))⟩
      · go_wp2_with fail
        obtain ⟨wa7, hw_⟩ : ∃ x, x = wa6.alloc (.cells #[] 3) := ⟨_, rfl⟩
        obtain ⟨e4, he_⟩ : ∃ b, b = wa6.heap.size := ⟨_, rfl⟩
        rw [← hw_, ← he_]
        have ST4 := Lib.hid (show Sta W O (.pointer none) [] [⟨b1, rpeZ, 77⟩, ⟨b0, m.rarr x, 77⟩] [⟨3, 1, .slice (some ⟨e4, 0, none⟩) 0 0, 0, []⟩, ⟨3, 1, .slice (some ⟨e9, 0, none⟩) 1 1, 1, [.int .i64 n]⟩] (prows m x []) wa7 from hw_ ▸ ST3.out.ownNew ((Fr.refl _ _).alloc _) (xs := []) (n := 0) (by rw [heap_alloc_if, if_pos he_]) (Nat.le_of_eq he_.symm) rfl (by decide))
        clear ST3 hw_ he_
        refine ⟨⟨⟨wa7, ST4.out.blkAt 1 rfl⟩, rfl⟩, ?_⟩
        refine wpVM_e (by simp only [List.getElem?_toArray, List.getElem?_cons_succ, List.getElem?_cons_zero] <;> rfl) (by rfl) ?_
        go_wp2_with fail
        refine (CDE.out _ (ST4.out.rowAt 0 rfl)).mono ?_
        intro e wa8 hst
        obtain ⟨ka, kc, rfl, hst2⟩ := ST4.out.callNew hst
        have ST5 := Lib.hid (show Sta W O (.pointer none) [] [⟨b1, rpeZ, 77⟩, ⟨b0, m.rarr x, 77⟩] [⟨3, 1, .slice (some ⟨e4, 0, none⟩) 0 0, 0, []⟩, ⟨3, 1, .slice (some ⟨e9, 0, none⟩) 1 1, 1, [.int .i64 n]⟩] (⟨ka, (rDrop m.e n).length, kc, ints (rDrop m.e n)⟩ :: prows m x []) wa8 from hst2)
        clear hst hst2 ST4
        go_wp2_with fail
        refine ⟨⟨⟨wa8, ST5.out.blkAt 1 rfl⟩, rfl⟩, ?_⟩
        refine wpVM_e (by simp only [List.getElem?_toArray, List.getElem?_cons_succ, List.getElem?_cons_zero] <;> rfl) (by rfl) ?_
        refine wpList_growI (by rfl) _ _ (by rfl) ST5.out 0 rfl (ST5.out.rowAt 2 rfl) (by rfl) (by rfl) (by have := HF.out.e; have := HF.out.z; omega) ?_
        intro v7 wa9 hst
        refine wpList_nil ?_
        have ST6 := Lib.hid (show Sta W O (.pointer none) [] [⟨b1, rpeZ, 77⟩, ⟨b0, m.rarr x, 77⟩] [⟨3, 1, v7, 0 + m.z.length, [] ++ ints m.z⟩, ⟨3, 1, .slice (some ⟨e9, 0, none⟩) 1 1, 1, [.int .i64 n]⟩] (⟨ka, (rDrop m.e n).length, kc, ints (rDrop m.e n)⟩ :: prows m x []) wa9 from hst)
        clear hst ST5
        refine ⟨⟨⟨wa9, ST6.out.blkAt 1 rfl⟩, rfl⟩, ?_⟩
        simp only [Act.put, List.setIfInBounds_toArray, List.set_cons_succ, List.set_cons_zero]
        refine wpVM_e (by simp only [List.getElem?_toArray, List.getElem?_cons_succ, List.getElem?_cons_zero] <;> rfl) (by rfl) ?_
        refine wpList_growT (by rfl) _ _ 25 3 1 8 (.int .i64 0) Try.underlying25 Try.infoint rfl (by decide) (by decide) (by rfl) ST6.out 0 rfl (by rfl) (by rfl) (own_add (ST6.out.ownAt 1 rfl)) (by rfl) (by rfl) (by have := HF.out.e; have := HF.out.z; omega) ?_
        intro v10 wa10 hst
        refine wpList_nil ?_
        have ST7 := Lib.hid (show Sta W O (.pointer none) [] [⟨b1, rpeZ, 77⟩, ⟨b0, m.rarr x, 77⟩] [⟨3, 1, v10, 0 + m.z.length + 1, [] ++ ints m.z ++ [.int .i64 n]⟩, ⟨3, 1, .slice (some ⟨e9, 0, none⟩) 1 1, 1, [.int .i64 n]⟩] (⟨ka, (rDrop m.e n).length, kc, ints (rDrop m.e n)⟩ :: prows m x []) wa10 from hst)
        clear hst ST6
        obtain ⟨za2, zc2, rfl, hst⟩ := ST7.out.asRow 0 rfl
        have hrr : 0 + m.z.length + 1 = A.length ∧ [] ++ ints m.z ++ [Value.int .i64 n] = ints A := by rw [HA.out]; constructor <;> simp
        rw [hrr.1, hrr.2] at hst
        rw [hrr.1]
        have ST8 := Lib.hid (show Sta W O (.pointer none) [] [⟨b1, rpeZ, 77⟩, ⟨b0, m.rarr x, 77⟩] [⟨3, 1, .slice (some ⟨e9, 0, none⟩) 1 1, 1, [.int .i64 n]⟩] (⟨za2, A.length, zc2, ints A⟩ :: ⟨ka, (rDrop m.e n).length, kc, ints (rDrop m.e n)⟩ :: prows m x []) wa10 from hst)
        clear hst hrr ST7
        refine ⟨⟨⟨wa10, ST8.out.blkAt 1 rfl⟩, rfl⟩, ?_⟩
        simp only [Act.put, List.setIfInBounds_toArray, List.set_cons_succ, List.set_cons_zero]
        refine wpVM_q (by simp only [List.getElem?_toArray, List.getElem?_cons_succ, List.getElem?_cons_zero] <;> rfl) (by rfl) (by rfl) ?_
        go_big_quiet_step (fail)
        refine wpQuiet_nil ?_
        refine wpVM_e (by simp only [List.getElem?_toArray, List.getElem?_cons_succ, List.getElem?_cons_zero] <;> rfl) (by rfl) ?_
        refine wpList_storeW (vs := #[.slice ka (rDrop m.e n).length kc, .slice za2 A.length zc2]) (ST8.out.blkAt 0 rfl) (by rfl) 77 _ _ (by rfl) (by rfl) (by rfl) rfl Try.infoRPeers (by rw [← Array.all_toList]; rfl) ?_
        intro wa12 f_ b_
        have ST9 := Lib.hid (show Sta W O (.pointer none) [] [⟨b1, #[.slice ka (rDrop m.e n).length kc, .slice za2 A.length zc2], 77⟩, ⟨b0, m.rarr x, 77⟩] [⟨3, 1, .slice (some ⟨e9, 0, none⟩) 1 1, 1, [.int .i64 n]⟩] (⟨za2, A.length, zc2, ints A⟩ :: ⟨ka, (rDrop m.e n).length, kc, ints (rDrop m.e n)⟩ :: prows m x []) wa12 from ST8.out.store 0 rfl f_ b_)
        clear ST8 f_ b_
        refine wpList_nil ?_
        refine ⟨⟨⟨wa12, ST9.out.blkAt 1 rfl⟩, rfl⟩, ?_⟩
        simp only [Act.put]
        refine wpVM_e (by simp only [List.getElem?_toArray, List.getElem?_cons_succ, List.getElem?_cons_zero] <;> rfl) (by rfl) ?_
        go_wp2_with fail
        refine ⟨⟨⟨wa12, ST9.out.blkAt 1 rfl⟩, rfl⟩, ?_⟩
        refine wpVM_done ?_
        clear q0 q1
        have LL : Hid ((loadVar 77 ⟨b1, 0, none⟩).run Try.prog wa12 = .ok (.agg (#[.slice ka (rDrop m.e n).length kc, .slice za2 A.length zc2])) wa12) := Lib.hid (run_loadVar_mid wa12 b1 0 77 (Array.toList (#[.slice ka (rDrop m.e n).length kc, .slice za2 A.length zc2])) _ (blk_range (ST9.out.blkAt 0 rfl)) Try.underlying77 rfl Try.infoRPeers)
        have LA : Hid ((asAddr (.pointer (some ⟨b1, 0, none⟩))).run Try.prog wa12 = .ok ⟨b1, 0, none⟩ wa12) := Lib.hid (by simp [go_sem])
        go_wp2_with fail
        refine bodyPost_ret (v := .tuple #[.agg (#[.slice ka (rDrop m.e n).length kc, .slice za2 A.length zc2]), .bool true]) (by simp [results, Try.results30, Sem.run_bind, Result.andThen_ok, LL.out, LA.out]) rfl ?_
        exact ⟨⟨ka, kc, za2, zc2⟩, rfl, ST9.out.out (List.nil_sublist _) (inC (at_ 1 rfl) (inC (at_ 0 rfl) inN))⟩
end Go.Proofs.Ytelepohdfcjnfaa
