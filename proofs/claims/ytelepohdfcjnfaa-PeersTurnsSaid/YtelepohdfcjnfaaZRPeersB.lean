/-
  The document's peers: Graft, Up, All (printed by gen_rpeersb.py).
-/
import Derived.Test.YtelepohdfcjnfaaZRPeers
namespace Go.Proofs.Ytelepohdfcjnfaa
open Go.RowKit Go.Proofs

set_option maxHeartbeats 4000000 in
set_option maxRecDepth 100000 in
theorem rpGraft_any (m : Pe) (x : PeP) (n : Int) (O : Nat → Prop) (W : World) (hs : Sta W O (.pointer none) [] [] [] (prows m x []) W) (hf : m.Few) :
    Calls Try.prog 32 #[.agg (m.rarr x), .int .i64 n] W (RPEnd W O (rpGraft m n).1 (fun a => .tuple #[.agg a, .bool (rpGraft m n).2])) := by
  have HF := Lib.hid hf
  clear hf
  have CDO := Lib.hid (fun w (h1 : SlA w x.ea m.e.length x.ec (ints m.e)) => rpDropOwn_any x.ea x.ec m.e n w h1 (by have := HF.out.e; omega))
  have CDZ := Lib.hid (fun w (h1 : SlA w x.za m.z.length x.zc (ints m.z)) => rpDrop_any x.za x.zc m.z n w h1 (by have := HF.out.z; omega))
  have CI := Lib.hid (fun w (h1 : SlA w x.ea m.e.length x.ec (ints m.e)) (h2 : SlA w x.za m.z.length x.zc (ints m.z)) => rpIs_any m x n w h1 h2)
  have HDL := Lib.hid (rDrop_len m.e n)
  obtain ⟨v, b, hv⟩ : ∃ v b, rpGraft m n = (v, b) := ⟨_, _, rfl⟩
  rw [hv]
  simp only
  unfold rpGraft at hv
  have HV := Lib.hid hv
  clear hv
  obtain ⟨c, hc⟩ : ∃ c, c = peHas m n := ⟨_, rfl⟩
  rw [← hc] at CI HV
  clear hc
  obtain ⟨w1, hw1⟩ : ∃ w1, w1 = (W.alloc (.cells (m.rarr x) 77)).alloc (.cells rpeZ 77) := ⟨_, rfl⟩
  obtain ⟨b0, hb0⟩ : ∃ b, b = W.heap.size := ⟨_, rfl⟩
  obtain ⟨b1, hb1⟩ : ∃ b, b = W.heap.size + 1 := ⟨_, rfl⟩
  have ST1 := Lib.hid (show Sta W O (.pointer none) [] [⟨b1, rpeZ, 77⟩, ⟨b0, m.rarr x, 77⟩] [] (prows m x []) w1 by rw [hw1]; exact (hs.box _ _ hb0).box _ _ (by rw [World.size_alloc]; exact hb1))
  have HW1 := Lib.hid hw1
  have HB0 := Lib.hid hb0
  have HB1 := Lib.hid hb1
  clear hw1 hb0 hb1 hs
  go_enter Try.func32, Try.ntmps32
  go_upto_region 1 with fail
  rw [← HW1.out, ← HB1.out, ← HB0.out]
  clear HW1 HB0 HB1
  refine wp_region_lit ?_
  refine wpList_load_mid (by rfl) 77 _ (by rfl) b0 0 (by rfl) (Array.toList (m.rarr x)) _ (blk_range (ST1.out.blkAt 1 rfl)) Try.underlying77 rfl Try.infoRPeers ?_
  go_wp2_with fail
  refine (CI.out _ (ST1.out.rowAt 0 rfl) (ST1.out.rowAt 1 rfl)).mono ?_
  rintro e w2 ⟨rfl, f_⟩
  have ST2 := Lib.hid (show Sta W O (.pointer none) [] [⟨b1, rpeZ, 77⟩, ⟨b0, m.rarr x, 77⟩] [] (prows m x []) w2 from ST1.out.gr f_)
  clear ST1 f_
  clear CI
  cases c
  case false =>
    obtain ⟨rfl, rfl⟩ : m = v ∧ false = b := by
      have hh := HV.out
      rw [if_neg (by decide)] at hh
      injection hh with a b
      exact ⟨a, b⟩
    clear HV
    go_upto_region 2 with fail
    refine wp_region_lit ?_
    refine wpList_load_mid (by rfl) 77 _ (by rfl) b0 0 (by rfl) (Array.toList (m.rarr x)) _ (blk_range (ST2.out.blkAt 1 rfl)) Try.underlying77 rfl Try.infoRPeers ?_
    go_wp2_with (refine wpList_storeW (vs := m.rarr x) (ST2.out.blkAt 0 rfl) (by rfl) 77 _ _ (by rfl) (by rfl) (by rfl) rfl Try.infoRPeers (by rw [← Array.all_toList]; rfl) ?_)
    intro w9 f_ b_
    have ST3 := Lib.hid (show Sta W O (.pointer none) [] [⟨b1, m.rarr x, 77⟩, ⟨b0, m.rarr x, 77⟩] [] (prows m x []) w9 from ST2.out.store 0 rfl f_ b_)
    clear ST2 f_ b_
    have LL : Hid ((loadVar 77 ⟨b1, 0, none⟩).run Try.prog w9 = .ok (.agg (m.rarr x)) w9) := Lib.hid (run_loadVar_mid w9 b1 0 77 (Array.toList (m.rarr x)) _ (blk_range (ST3.out.blkAt 0 rfl)) Try.underlying77 rfl Try.infoRPeers)
    have LA : Hid ((asAddr (.pointer (some ⟨b1, 0, none⟩))).run Try.prog w9 = .ok ⟨b1, 0, none⟩ w9) := Lib.hid (by simp [go_sem])
    go_wp2_with fail
    refine bodyPost_ret (v := .tuple #[.agg (m.rarr x), .bool false]) (by simp [results, Try.results32, Sem.run_bind, Result.andThen_ok, LL.out, LA.out]) rfl ?_
    exact ⟨x, rfl, ST3.out.out (List.Sublist.refl _) (inC (at_ 0 rfl) (inC (at_ 1 rfl) inN))⟩
  case true =>
    obtain ⟨A, hA⟩ : ∃ A, A = rDrop m.e n ++ [n] := ⟨_, rfl⟩
    obtain ⟨rfl, rfl⟩ : (⟨A, rDrop m.z n⟩ : Pe) = v ∧ true = b := by
      have hh := HV.out
      rw [if_pos rfl, ← hA] at hh
      injection hh with a b
      exact ⟨a, b⟩
    clear HV
    have HA := Lib.hid hA
    clear hA
    go_upto_region 3 with fail
    obtain ⟨wd, hwd⟩ : ∃ x, x = w2.drew := ⟨_, rfl⟩
    have HWD := Lib.hid hwd
    have ST3 := Lib.hid (show Sta W O (.pointer none) [] [⟨b1, rpeZ, 77⟩, ⟨b0, m.rarr x, 77⟩] [] (prows m x []) wd from hwd ▸ ST2.out.gr ((Fr.refl _ _).drew))
    clear ST2 hwd
    haveI : Nonempty (WC (fun w => w.heap[b0]? = some (.cells (m.rarr x) 77 (0, 0)))) := ⟨⟨wd, ST3.out.blkAt 1 rfl⟩⟩
    have q0 : ∀ z : WC (fun w => w.heap[b0]? = some (.cells (m.rarr x) 77 (0, 0))), z.val.cell? ⟨b0, 0, none⟩ = some (.slice x.ea m.e.length x.ec) := fun z => by rw [Lib.cell_of_heap z.ok]; rfl
    have q1 : ∀ z : WC (fun w => w.heap[b0]? = some (.cells (m.rarr x) 77 (0, 0))), z.val.cell? ⟨b0, 1, none⟩ = some (.slice x.za m.z.length x.zc) := fun z => by rw [Lib.cell_of_heap z.ok]; rfl
    refine wp_region_planM [3, 5, 6, 10, 12, 13] (.take 0 (.take 2 (.take 4 (.take 7 (.take 9 (.take 1 (.take 8 (.fork 3 5 ((.take 5 (.take 6 (.take 10 (.take 11 (.take 12 (.take 13 .done))))))) ((.take 3 (.take 6 (.take 10 (.take 11 (.take 12 (.take 13 .done))))))))))))))) (fun w' => ∃ z : WC (fun w => w.heap[b0]? = some (.cells (m.rarr x) 77 (0, 0))), w' = z.val) (by kernel_rfl) (by kernel_rfl) (fun c a w d v h => by cases d <;> exact h) (fun c a w d v h => by cases d <;> exact h) (by rw [← HWD.out]; exact ⟨⟨wd, ST3.out.blkAt 1 rfl⟩, rfl⟩) ?_
    rw [← HWD.out]
    clear HWD
    refine wpVM_q (by simp only [List.getElem?_toArray, List.getElem?_cons_zero] <;> rfl) (by rfl) (by rfl) ?_
    go_big_quiet_step (fail)
    refine wpQuiet_nil ?_
    refine wpVM_q (by simp only [List.getElem?_toArray, List.getElem?_cons_succ, List.getElem?_cons_zero] <;> rfl) (by rfl) (by rfl) ?_
    go_big_quiet_step (fail)
    refine wpQuiet_nil ?_
    refine wpVM_q (by simp only [List.getElem?_toArray, List.getElem?_cons_succ, List.getElem?_cons_zero] <;> rfl) (by rfl) (by rfl) ?_
    go_big_quiet_step (fail)
    refine wpQuiet_nil ?_
    refine wpVM_q (by simp only [List.getElem?_toArray, List.getElem?_cons_succ, List.getElem?_cons_zero] <;> rfl) (by rfl) (by rfl) ?_
    go_big_quiet_step (fail)
    refine wpQuiet_nil ?_
    refine wpVM_q (by simp only [List.getElem?_toArray, List.getElem?_cons_succ, List.getElem?_cons_zero] <;> rfl) (by rfl) (by rfl) ?_
    go_big_quiet_step (fail)
    refine wpQuiet_nil ?_
    refine wpVM_q (by simp only [List.getElem?_toArray, List.getElem?_cons_succ, List.getElem?_cons_zero] <;> rfl) (by rfl) (by rfl) ?_
    go_big_quiet_step (fail)
    refine wpQuiet_nil ?_
    refine wpVM_q (by simp only [List.getElem?_toArray, List.getElem?_cons_succ, List.getElem?_cons_zero] <;> rfl) (by rfl) (by rfl) ?_
    go_big_quiet_step (fail)
    refine wpQuiet_nil ?_
    refine wpVM_fork (by simp only [List.getElem?_toArray, List.getElem?_cons_succ, List.getElem?_cons_zero] <;> rfl) (by simp only [List.getElem?_toArray, List.getElem?_cons_succ, List.getElem?_cons_zero] <;> rfl) ?_ ?_
    · go_wp2_with fail
      refine (CDO.out _ (ST3.out.rowAt 0 rfl)).mono ?_
      rintro e wa7 ⟨v3, rfl, ho_, hb_⟩
      have ST4 := Lib.hid (show Sta W O (.pointer none) [] [⟨b1, rpeZ, 77⟩, ⟨b0, m.rarr x, 77⟩] [⟨3, 1, v3, (rDrop m.e n).length, ints (rDrop m.e n)⟩] (prows m x []) wa7 from ST3.out.ownIn (Gr.of_below hb_) ho_)
      clear ho_ hb_ ST3
      go_wp2_with fail
      refine ⟨⟨⟨wa7, ST4.out.blkAt 1 rfl⟩, rfl⟩, ?_⟩
      refine wpVM_e (by simp only [List.getElem?_toArray, List.getElem?_cons_succ, List.getElem?_cons_zero] <;> rfl) (by rfl) ?_
      go_wp2_with fail
      obtain ⟨wa8, hw_⟩ : ∃ x, x = wa7.alloc (.cells #[.int .i64 n] 3) := ⟨_, rfl⟩
      obtain ⟨e5, he_⟩ : ∃ b, b = wa7.heap.size := ⟨_, rfl⟩
      rw [← hw_, ← he_]
      have ST5 := Lib.hid (show Sta W O (.pointer none) [] [⟨b1, rpeZ, 77⟩, ⟨b0, m.rarr x, 77⟩] [⟨3, 1, .slice (some ⟨e5, 0, none⟩) 1 1, 1, [.int .i64 n]⟩, ⟨3, 1, v3, (rDrop m.e n).length, ints (rDrop m.e n)⟩] (prows m x []) wa8 from hw_ ▸ ST4.out.ownNew ((Fr.refl _ _).alloc _) (xs := [.int .i64 n]) (n := 1) (by rw [heap_alloc_if, if_pos he_]) (Nat.le_of_eq he_.symm) rfl (by decide))
      clear ST4 hw_ he_
      refine ⟨⟨⟨wa8, ST5.out.blkAt 1 rfl⟩, rfl⟩, ?_⟩
      refine wpVM_e (by simp only [List.getElem?_toArray, List.getElem?_cons_succ, List.getElem?_cons_zero] <;> rfl) (by rfl) ?_
      refine wpList_growT (by rfl) _ _ 25 3 1 8 (.int .i64 0) Try.underlying25 Try.infoint rfl (by decide) (by decide) (by rfl) ST5.out 1 rfl (by rfl) (by rfl) (own_add (ST5.out.ownAt 0 rfl)) (by rfl) (by rfl) (by have := HF.out.e; have := HF.out.z; have := HDL.out; omega) ?_
      intro v10 wa9 hst
      refine wpList_nil ?_
      have ST6 := Lib.hid (show Sta W O (.pointer none) [] [⟨b1, rpeZ, 77⟩, ⟨b0, m.rarr x, 77⟩] [⟨3, 1, .slice (some ⟨e5, 0, none⟩) 1 1, 1, [.int .i64 n]⟩, ⟨3, 1, v10, (rDrop m.e n).length + 1, ints (rDrop m.e n) ++ [.int .i64 n]⟩] (prows m x []) wa9 from hst)
      clear hst ST5
      obtain ⟨ea2, ec2, rfl, hst⟩ := ST6.out.asRow 1 rfl
      have hrr : (rDrop m.e n).length + 1 = A.length ∧ ints (rDrop m.e n) ++ [Value.int .i64 n] = ints A := by rw [HA.out]; constructor <;> simp
      rw [hrr.1, hrr.2] at hst
      rw [hrr.1]
      have ST7 := Lib.hid (show Sta W O (.pointer none) [] [⟨b1, rpeZ, 77⟩, ⟨b0, m.rarr x, 77⟩] [⟨3, 1, .slice (some ⟨e5, 0, none⟩) 1 1, 1, [.int .i64 n]⟩] (⟨ea2, A.length, ec2, ints A⟩ :: prows m x []) wa9 from hst)
      clear hst hrr ST6
      refine ⟨⟨⟨wa9, ST7.out.blkAt 1 rfl⟩, rfl⟩, ?_⟩
      simp only [Act.put, List.setIfInBounds_toArray, List.set_cons_succ, List.set_cons_zero]
      refine wpVM_e (by simp only [List.getElem?_toArray, List.getElem?_cons_succ, List.getElem?_cons_zero] <;> rfl) (by rfl) ?_
      go_wp2_with fail
      refine (CDZ.out _ (ST7.out.rowAt 2 rfl)).mono ?_
      intro e wa10 hst
      obtain ⟨la, lc, rfl, hst2⟩ := ST7.out.callNew hst
      have ST8 := Lib.hid (show Sta W O (.pointer none) [] [⟨b1, rpeZ, 77⟩, ⟨b0, m.rarr x, 77⟩] [⟨3, 1, .slice (some ⟨e5, 0, none⟩) 1 1, 1, [.int .i64 n]⟩] (⟨la, (rDrop m.z n).length, lc, ints (rDrop m.z n)⟩ :: ⟨ea2, A.length, ec2, ints A⟩ :: prows m x []) wa10 from hst2)
      clear hst hst2 ST7
      go_wp2_with fail
      refine ⟨⟨⟨wa10, ST8.out.blkAt 1 rfl⟩, rfl⟩, ?_⟩
      refine wpVM_q (by simp only [List.getElem?_toArray, List.getElem?_cons_succ, List.getElem?_cons_zero] <;> rfl) (by rfl) (by rfl) ?_
      go_big_quiet_step (fail)
      refine wpQuiet_nil ?_
      refine wpVM_e (by simp only [List.getElem?_toArray, List.getElem?_cons_succ, List.getElem?_cons_zero] <;> rfl) (by rfl) ?_
      refine wpList_storeW (vs := #[.slice ea2 A.length ec2, .slice la (rDrop m.z n).length lc]) (ST8.out.blkAt 0 rfl) (by rfl) 77 _ _ (by rfl) (by rfl) (by rfl) rfl Try.infoRPeers (by rw [← Array.all_toList]; rfl) ?_
      intro wa12 f_ b_
      have ST9 := Lib.hid (show Sta W O (.pointer none) [] [⟨b1, #[.slice ea2 A.length ec2, .slice la (rDrop m.z n).length lc], 77⟩, ⟨b0, m.rarr x, 77⟩] [⟨3, 1, .slice (some ⟨e5, 0, none⟩) 1 1, 1, [.int .i64 n]⟩] (⟨la, (rDrop m.z n).length, lc, ints (rDrop m.z n)⟩ :: ⟨ea2, A.length, ec2, ints A⟩ :: prows m x []) wa12 from ST8.out.store 0 rfl f_ b_)
      clear ST8 f_ b_
      refine wpList_nil ?_
      refine ⟨⟨⟨wa12, ST9.out.blkAt 1 rfl⟩, rfl⟩, ?_⟩
      simp only [Act.put]
      refine wpVM_e (by simp only [List.getElem?_toArray, List.getElem?_cons_succ, List.getElem?_cons_zero] <;> rfl) (by rfl) ?_
      go_wp2_with fail
      refine ⟨⟨⟨wa12, ST9.out.blkAt 1 rfl⟩, rfl⟩, ?_⟩
      refine wpVM_done ?_
      clear q0 q1
      have LL : Hid ((loadVar 77 ⟨b1, 0, none⟩).run Try.prog wa12 = .ok (.agg (#[.slice ea2 A.length ec2, .slice la (rDrop m.z n).length lc])) wa12) := Lib.hid (run_loadVar_mid wa12 b1 0 77 (Array.toList (#[.slice ea2 A.length ec2, .slice la (rDrop m.z n).length lc])) _ (blk_range (ST9.out.blkAt 0 rfl)) Try.underlying77 rfl Try.infoRPeers)
      have LA : Hid ((asAddr (.pointer (some ⟨b1, 0, none⟩))).run Try.prog wa12 = .ok ⟨b1, 0, none⟩ wa12) := Lib.hid (by simp [go_sem])
      go_wp2_with fail
      refine bodyPost_ret (v := .tuple #[.agg (#[.slice ea2 A.length ec2, .slice la (rDrop m.z n).length lc]), .bool true]) (by simp [results, Try.results32, Sem.run_bind, Result.andThen_ok, LL.out, LA.out]) rfl ?_
      exact ⟨⟨ea2, ec2, la, lc⟩, rfl, ST9.out.out (List.nil_sublist _) (inC (at_ 1 rfl) (inC (at_ 0 rfl) inN))⟩
    · go_wp2_with fail
      obtain ⟨wa7, hw_⟩ : ∃ x, x = wd.alloc (.cells #[.int .i64 n] 3) := ⟨_, rfl⟩
      obtain ⟨e5, he_⟩ : ∃ b, b = wd.heap.size := ⟨_, rfl⟩
      rw [← hw_, ← he_]
      have ST4 := Lib.hid (show Sta W O (.pointer none) [] [⟨b1, rpeZ, 77⟩, ⟨b0, m.rarr x, 77⟩] [⟨3, 1, .slice (some ⟨e5, 0, none⟩) 1 1, 1, [.int .i64 n]⟩] (prows m x []) wa7 from hw_ ▸ ST3.out.ownNew ((Fr.refl _ _).alloc _) (xs := [.int .i64 n]) (n := 1) (by rw [heap_alloc_if, if_pos he_]) (Nat.le_of_eq he_.symm) rfl (by decide))
      clear ST3 hw_ he_
      refine ⟨⟨⟨wa7, ST4.out.blkAt 1 rfl⟩, rfl⟩, ?_⟩
      refine wpVM_e (by simp only [List.getElem?_toArray, List.getElem?_cons_succ, List.getElem?_cons_zero] <;> rfl) (by rfl) ?_
      go_wp2_with fail
      refine (CDO.out _ (ST4.out.rowAt 0 rfl)).mono ?_
      rintro e wa8 ⟨v3, rfl, ho_, hb_⟩
      have ST5 := Lib.hid (show Sta W O (.pointer none) [] [⟨b1, rpeZ, 77⟩, ⟨b0, m.rarr x, 77⟩] [⟨3, 1, v3, (rDrop m.e n).length, ints (rDrop m.e n)⟩, ⟨3, 1, .slice (some ⟨e5, 0, none⟩) 1 1, 1, [.int .i64 n]⟩] (prows m x []) wa8 from ST4.out.ownIn (Gr.of_below hb_) ho_)
      clear ho_ hb_ ST4
      go_wp2_with fail
      refine ⟨⟨⟨wa8, ST5.out.blkAt 1 rfl⟩, rfl⟩, ?_⟩
      refine wpVM_e (by simp only [List.getElem?_toArray, List.getElem?_cons_succ, List.getElem?_cons_zero] <;> rfl) (by rfl) ?_
      refine wpList_growT (by rfl) _ _ 25 3 1 8 (.int .i64 0) Try.underlying25 Try.infoint rfl (by decide) (by decide) (by rfl) ST5.out 0 rfl (by rfl) (by rfl) (own_add (ST5.out.ownAt 1 rfl)) (by rfl) (by rfl) (by have := HF.out.e; have := HF.out.z; have := HDL.out; omega) ?_
      intro v10 wa9 hst
      refine wpList_nil ?_
      have ST6 := Lib.hid (show Sta W O (.pointer none) [] [⟨b1, rpeZ, 77⟩, ⟨b0, m.rarr x, 77⟩] [⟨3, 1, v10, (rDrop m.e n).length + 1, ints (rDrop m.e n) ++ [.int .i64 n]⟩, ⟨3, 1, .slice (some ⟨e5, 0, none⟩) 1 1, 1, [.int .i64 n]⟩] (prows m x []) wa9 from hst)
      clear hst ST5
      obtain ⟨ea2, ec2, rfl, hst⟩ := ST6.out.asRow 0 rfl
      have hrr : (rDrop m.e n).length + 1 = A.length ∧ ints (rDrop m.e n) ++ [Value.int .i64 n] = ints A := by rw [HA.out]; constructor <;> simp
      rw [hrr.1, hrr.2] at hst
      rw [hrr.1]
      have ST7 := Lib.hid (show Sta W O (.pointer none) [] [⟨b1, rpeZ, 77⟩, ⟨b0, m.rarr x, 77⟩] [⟨3, 1, .slice (some ⟨e5, 0, none⟩) 1 1, 1, [.int .i64 n]⟩] (⟨ea2, A.length, ec2, ints A⟩ :: prows m x []) wa9 from hst)
      clear hst hrr ST6
      refine ⟨⟨⟨wa9, ST7.out.blkAt 1 rfl⟩, rfl⟩, ?_⟩
      simp only [Act.put, List.setIfInBounds_toArray, List.set_cons_succ, List.set_cons_zero]
      refine wpVM_e (by simp only [List.getElem?_toArray, List.getElem?_cons_succ, List.getElem?_cons_zero] <;> rfl) (by rfl) ?_
      go_wp2_with fail
      refine (CDZ.out _ (ST7.out.rowAt 2 rfl)).mono ?_
      intro e wa10 hst
      obtain ⟨la, lc, rfl, hst2⟩ := ST7.out.callNew hst
      have ST8 := Lib.hid (show Sta W O (.pointer none) [] [⟨b1, rpeZ, 77⟩, ⟨b0, m.rarr x, 77⟩] [⟨3, 1, .slice (some ⟨e5, 0, none⟩) 1 1, 1, [.int .i64 n]⟩] (⟨la, (rDrop m.z n).length, lc, ints (rDrop m.z n)⟩ :: ⟨ea2, A.length, ec2, ints A⟩ :: prows m x []) wa10 from hst2)
      clear hst hst2 ST7
      go_wp2_with fail
      refine ⟨⟨⟨wa10, ST8.out.blkAt 1 rfl⟩, rfl⟩, ?_⟩
      refine wpVM_q (by simp only [List.getElem?_toArray, List.getElem?_cons_succ, List.getElem?_cons_zero] <;> rfl) (by rfl) (by rfl) ?_
      go_big_quiet_step (fail)
      refine wpQuiet_nil ?_
      refine wpVM_e (by simp only [List.getElem?_toArray, List.getElem?_cons_succ, List.getElem?_cons_zero] <;> rfl) (by rfl) ?_
      refine wpList_storeW (vs := #[.slice ea2 A.length ec2, .slice la (rDrop m.z n).length lc]) (ST8.out.blkAt 0 rfl) (by rfl) 77 _ _ (by rfl) (by rfl) (by rfl) rfl Try.infoRPeers (by rw [← Array.all_toList]; rfl) ?_
      intro wa12 f_ b_
      have ST9 := Lib.hid (show Sta W O (.pointer none) [] [⟨b1, #[.slice ea2 A.length ec2, .slice la (rDrop m.z n).length lc], 77⟩, ⟨b0, m.rarr x, 77⟩] [⟨3, 1, .slice (some ⟨e5, 0, none⟩) 1 1, 1, [.int .i64 n]⟩] (⟨la, (rDrop m.z n).length, lc, ints (rDrop m.z n)⟩ :: ⟨ea2, A.length, ec2, ints A⟩ :: prows m x []) wa12 from ST8.out.store 0 rfl f_ b_)
      clear ST8 f_ b_
      refine wpList_nil ?_
      refine ⟨⟨⟨wa12, ST9.out.blkAt 1 rfl⟩, rfl⟩, ?_⟩
      simp only [Act.put]
      refine wpVM_e (by simp only [List.getElem?_toArray, List.getElem?_cons_succ, List.getElem?_cons_zero] <;> rfl) (by rfl) ?_
      go_wp2_with fail
      refine ⟨⟨⟨wa12, ST9.out.blkAt 1 rfl⟩, rfl⟩, ?_⟩
      refine wpVM_done ?_
      clear q0 q1
      have LL : Hid ((loadVar 77 ⟨b1, 0, none⟩).run Try.prog wa12 = .ok (.agg (#[.slice ea2 A.length ec2, .slice la (rDrop m.z n).length lc])) wa12) := Lib.hid (run_loadVar_mid wa12 b1 0 77 (Array.toList (#[.slice ea2 A.length ec2, .slice la (rDrop m.z n).length lc])) _ (blk_range (ST9.out.blkAt 0 rfl)) Try.underlying77 rfl Try.infoRPeers)
      have LA : Hid ((asAddr (.pointer (some ⟨b1, 0, none⟩))).run Try.prog wa12 = .ok ⟨b1, 0, none⟩ wa12) := Lib.hid (by simp [go_sem])
      go_wp2_with fail
      refine bodyPost_ret (v := .tuple #[.agg (#[.slice ea2 A.length ec2, .slice la (rDrop m.z n).length lc]), .bool true]) (by simp [results, Try.results32, Sem.run_bind, Result.andThen_ok, LL.out, LA.out]) rfl ?_
      exact ⟨⟨ea2, ec2, la, lc⟩, rfl, ST9.out.out (List.nil_sublist _) (inC (at_ 1 rfl) (inC (at_ 0 rfl) inN))⟩

set_option maxHeartbeats 2000000 in
set_option maxRecDepth 100000 in
theorem rpSortedN_any (b o cap : Nat) (l t : List Int) (w : World) (h : SlA w (some ⟨b, o, none⟩) l.length cap (ints l)) (hp : t.Perm l) (ht : t.Pairwise (· ≤ ·)) (hn : l.length ≤ 4294967296) :
    Calls Try.prog 67 #[.slice (some ⟨b, o, none⟩) l.length cap] w (RowNew t w) := by
  obtain ⟨i0, hi, hz0, hz1, hz2⟩ := info_parts Try.infoint
  have hle := h.le
  have hmx := h.max
  have H := Lib.hid h; clear h
  have HP := Lib.hid hp; clear hp
  have HT := Lib.hid ht; clear ht
  go_enter Try.func67, Try.ntmps67
  go_wp2_with (at_builtin; refine wpList_append_own _ rfl _ _ 25 rfl w.heap.size 3 i0 (.int .i64 0) 1 8 Try.underlying25 hi hz0 hz1 hz2 rfl (by decide) _ _ _ rfl (own_empty w _ _ (Nat.le_refl _)) ⟨b, o, none⟩ l.length cap (ints l) rfl (by simp) ?c1 (one_map _ l (fun _ => rfl)) (by unfold maxLen; omega) (by omega) (by simp) ?_)
  case c1 =>
    intro j u hj
    obtain ⟨b', o', e, hc⟩ := H.out.cell j u hj
    cases e
    rw [Addr.add_lit]
    rw [World.cell?_alloc_old _ _ _ (Nat.ne_of_lt (lt_of_cell hc))]; exact hc
  intro v1 w1 hown1 hgrow1 hiff
  have hfr1 : Gr w w1 := ((Fr.refl (fun _ => False) w).alloc _).grown hgrow1 (fun q hq => .inr (by simp [Value.ownBlock] at hq; omega))
  obtain ⟨hl, ⟨h', _⟩ | ⟨g, cap1, cur, rfl, hB, hg, hnc, hcm, hcs, htk⟩⟩ := hown1
  · exact absurd h' hiff
  have hrow : RowIs w1 g cap1 l := by
    refine ⟨cur, hg, by omega, fun j y hj => ?_⟩
    have hj' := (List.getElem?_eq_some_iff.1 hj).1
    have h1 : (cur.toList.take (l.length * 1))[j]? = (ints l)[j]? := by rw [htk]
    rw [List.getElem?_take, if_pos (by omega)] at h1
    simp only [ints, List.getElem?_map, hj, Option.map_some] at h1
    simpa using h1
  have hge := Lib.hid hB
  have F1 := Lib.hid hfr1
  clear hl hg hcs htk hiff hgrow1 hB hfr1
  go_wp2_with fail
  go_loopw [4, 5] (fun iv _ wr => ∃ (i : Nat) (c : List Int), iv = .int .i64 i ∧ 1 ≤ i ∧ (i ≤ l.length ∨ i = 1) ∧ c.length = l.length ∧ c.Perm l ∧ RiseTo c i ∧ RowIs wr g cap1 c ∧ Fr (fun k => k = g) w1 wr) (fun iv _ _ => l.length - (intOf iv).toNat)
  case atStart => exact ⟨1, l, rfl, Nat.le_refl _, .inr rfl, rfl, List.Perm.refl _, fun x y u v h1 h2 _ _ => by omega, hrow, Fr.refl _ _⟩
  case round =>
    obtain ⟨i, c, rfl, hi1, hi2, hcl, hcp, hct, hcr, hcf⟩ := hrel
    clear hrow
    have HCP := Lib.hid hcp; clear hcp
    have HCR := Lib.hid hcr; clear hcr
    have HCF := Lib.hid hcf; clear hcf
    have HCT := Lib.hid hct; clear hct
    by_cases hil : i < l.length
    · go_wp2_with fail
      go_loopw [5] (fun jv wr2 => ∃ (j : Nat) (c : List Int), jv = .int .i64 j ∧ j ≤ i ∧ c.length = l.length ∧ c.Perm l ∧ RiseBut c i j ∧ RowIs wr2 g cap1 c ∧ Fr (fun k => k = g) w1 wr2) (fun jv _ => (intOf jv).toNat)
      case atStart => exact ⟨i, c, rfl, Nat.le_refl _, hcl, HCP.out, rise_start HCT.out, HCR.out, HCF.out⟩
      case round =>
        clear HCP HCR HCF HCT hcl
        clear c
        obtain ⟨j, c, rfl, hj, hcl, hcp, hct, hcr, hcf⟩ := hrel
        have HCP := Lib.hid hcp; clear hcp
        have HCR := Lib.hid hcr; clear hcr
        have HCF := Lib.hid hcf; clear hcf
        have HCT := Lib.hid hct; clear hct
        cases j with
        | zero =>
          go_wp2_with fail
          go_quiet (fail)
          go_wp2_with fail
          go_roundw
          case rel => exact ⟨i + 1, c, by go_num, by omega, by omega, hcl, HCP.out, rise_zero HCT.out, HCR.out.drewN _, HCF.out.drewN _⟩
          case measure => simp [intOf]; omega
        | succ j =>
          have hc1 := HCR.out.cell j (by omega)
          have hc2 := HCR.out.cell (j + 1) (by omega)
          have hz1 := HCR.out.frozen j
          have hz2 := HCR.out.frozen (j + 1)
          have hg1 : c.getD j 0 = c[j] := by rw [List.getD_eq_getElem?_getD, List.getElem?_eq_getElem (by omega)]; rfl
          have hg2 : c.getD (j + 1) 0 = c[j + 1] := by rw [List.getD_eq_getElem?_getD, List.getElem?_eq_getElem (by omega)]; rfl
          have HG1 := Lib.hid hg1; clear hg1
          have HG2 := Lib.hid hg2; clear hg2
          by_cases hlt : c[j + 1] < c[j]
          · go_wp2_with fail
            go_quiet (fail)
            go_wp2_with fail
            go_region
            have hsw : (c.set j c[j + 1]).set (j + 1) c[j] = swp c j (j + 1) := by unfold swp; rw [HG1.out, HG2.out]
            have hrw := ((HCR.out.drewN (nq + 1)).set (by omega) j c[j + 1]).set (by simp; omega) (j + 1) c[j]
            rw [hsw] at hrw
            have HRW := Lib.hid hrw; clear hrw hsw
            have HFW : Hid (Fr (fun k => k = g) w1 (((wr.drewN (nq + 1)).setCell ⟨g, j, none⟩ (.int .i64 c[j + 1])).setCell ⟨g, j + 1, none⟩ (.int .i64 c[j]))) := Lib.hid (((HCF.out.drewN (nq + 1)).setCell (p := ⟨g, j, none⟩) (.inl rfl) _).setCell (p := ⟨g, j + 1, none⟩) (.inl rfl) _)
            have HSW := Lib.hid (rise_swp HCT.out (by omega) hj (by rw [HG1.out, HG2.out]; exact hlt))
            have HPW := Lib.hid ((swp_perm c j (by omega)).trans HCP.out)
            clear hc1 hc2 hz1 hz2 HG1 HG2
            go_wp2_with fail
            go_roundw
            case rel => exact ⟨j, _, by go_num, by omega, by rw [swp_length]; exact hcl, HPW.out, HSW.out, HRW.out, HFW.out⟩
            case measure => simp [intOf]
          · go_wp2_with fail
            go_quiet (fail)
            go_wp2_with fail
            go_roundw
            case rel => exact ⟨i + 1, c, by go_num, by omega, by omega, hcl, HCP.out, rise_stop HCT.out (by omega) hj (by rw [HG1.out, HG2.out]; omega), HCR.out.drewN _, HCF.out.drewN _⟩
            case measure => simp [intOf]; omega
    · have hct : c = t := by
        have h1 := HCT.out
        refine rise_all (fun x y u v h2 h3 => h1 x y u v h2 (by omega)) (HCP.out.trans HP.out.symm) HT.out
      subst hct
      have hs := HCR.out.sla (by omega) hcm
      have HS := Lib.hid hs; clear hs
      have HW : Hid (Gr w wr) := Lib.hid (Fr.trans F1.out HCF.out (fun k h => .inr (by have : k = g := h; subst this; exact hge.out)))
      go_wp2_with fail
      go_ret
      exact ⟨_, _, by rw [hcl]; rfl, HS.out, fun q hq => by cases hq; exact hge.out, HW.out⟩

set_option maxHeartbeats 2000000 in
set_option maxRecDepth 100000 in
theorem rpSorted_nil (w : World) :
    Calls Try.prog 67 #[.slice none 0 0] w (RowNew [] w) := by
  go_enter Try.func67, Try.ntmps67
  go_wp2_with fail
  go_loopw [4, 5] (fun iv _ wr => ∃ (i : Nat), iv = .int .i64 i ∧ 1 ≤ i ∧ Gr w wr) (fun iv _ _ => 0)
  case atStart => exact ⟨1, rfl, Nat.le_refl _, (Fr.refl _ _).alloc _⟩
  case round =>
    obtain ⟨i, rfl, hi, hf⟩ := hrel
    have hlt : decide ((i : Int) < 0) = false := by simp
    have HF := Lib.hid hf; clear hf
    go_wp2_with fail
    go_ret
    exact ⟨_, _, rfl, ⟨Nat.le_refl _, by simp, fun j u h => by simp at h⟩, fun q hq => (by cases hq; exact Nat.le_refl _), HF.out⟩

theorem refSorted_new (B : Nat) (v : Value) (l t : List Int) (w : World) (h : w.ownsRow B 3 1 v l.length (ints l)) (hp : t.Perm l) (ht : t.Pairwise (· ≤ ·)) (hn : l.length ≤ 4294967296) :
    Calls Try.prog 67 #[v] w (RowNew t w) := by
  obtain ⟨a, c, hv, hs, hb, _⟩ := SlA.of_own h
  obtain ⟨hl, ⟨h', hl0⟩ | ⟨g, cap1, cur, h', hB, hg, hnc, hcm, hcs, htk⟩⟩ := h
  · subst h'
    have hl1 : l = [] := List.eq_nil_of_length_eq_zero hl0
    subst hl1
    obtain rfl : t = [] := List.perm_nil.1 hp
    exact rpSorted_nil w
  · rw [h'] at hv ⊢
    simp only [Value.slice.injEq, true_and] at hv
    obtain ⟨rfl, rfl⟩ := hv
    exact rpSortedN_any g 0 cap1 l t w hs hp ht hn
theorem Sta.new_row {W : World} {O : Nat → Prop} {B : List Blk} {L : List Ow} {R : List Rw} {w w' : World} {l : List Int} {e : Ending} (h : Sta W O (.pointer none) [] B L R w) (k : RowNew l w e w') : RowNew l W e w' := by
  obtain ⟨a, c, rfl, hs, hn, hg⟩ := k
  exact ⟨a, c, rfl, hs, fun q hq => Nat.le_trans h.size (hn q hq), ((h.gr hg).fr).mono (fun k _ e => absurd e (pn_no k))⟩
set_option maxHeartbeats 4000000 in
set_option maxRecDepth 100000 in
theorem rpAll_any (m : Pe) (x : PeP) (O : Nat → Prop) (W : World) (hs : Sta W O (.pointer none) [] [] [] (prows m x []) W) (hf : m.Few) :
    Calls Try.prog 68 #[.agg (m.rarr x)] W (RowNew (peAll m) W) := by
  have HF := Lib.hid hf
  obtain ⟨l, hl⟩ : ∃ l, l = m.e ++ m.z := ⟨_, rfl⟩
  have HL := Lib.hid hl
  clear hl
  obtain ⟨w1, hw1⟩ : ∃ w1, w1 = W.alloc (.cells (m.rarr x) 77) := ⟨_, rfl⟩
  obtain ⟨b0, hb0⟩ : ∃ b, b = W.heap.size := ⟨_, rfl⟩
  have ST1 := Lib.hid (show Sta W O (.pointer none) [] [⟨b0, m.rarr x, 77⟩] [] (prows m x []) w1 by rw [hw1]; exact hs.box _ _ hb0)
  have HW1 := Lib.hid hw1
  have HB0 := Lib.hid hb0
  clear hw1 hb0 hs hf
  go_enter Try.func68, Try.ntmps68
  go_upto_region 1 with fail
  rw [← HW1.out, ← HB0.out]
  clear HW1 HB0
  obtain ⟨wd, hwd⟩ : ∃ x, x = w1.drew := ⟨_, rfl⟩
  have HWD := Lib.hid hwd
  have ST2 := Lib.hid (show Sta W O (.pointer none) [] [⟨b0, m.rarr x, 77⟩] [] (prows m x []) wd from hwd ▸ ST1.out.gr ((Fr.refl _ _).drew))
  clear ST1 hwd
  haveI : Nonempty (WC (fun w => w.heap[b0]? = some (.cells (m.rarr x) 77 (0, 0)))) := ⟨⟨wd, ST2.out.blkAt 0 rfl⟩⟩
  have q0 : ∀ z : WC (fun w => w.heap[b0]? = some (.cells (m.rarr x) 77 (0, 0))), z.val.cell? ⟨b0, 0, none⟩ = some (.slice x.ea m.e.length x.ec) := fun z => by rw [Lib.cell_of_heap z.ok]; rfl
  have q1 : ∀ z : WC (fun w => w.heap[b0]? = some (.cells (m.rarr x) 77 (0, 0))), z.val.cell? ⟨b0, 1, none⟩ = some (.slice x.za m.z.length x.zc) := fun z => by rw [Lib.cell_of_heap z.ok]; rfl
  refine wp_region_planM [0, 3, 6, 7, 8] (.take 1 (.take 4 (.take 2 (.take 5 (.take 0 (.take 3 (.take 6 (.take 7 (.take 8 .done))))))))) (fun w' => ∃ z : WC (fun w => w.heap[b0]? = some (.cells (m.rarr x) 77 (0, 0))), w' = z.val) (by kernel_rfl) (by kernel_rfl) (fun c a w d v h => by cases d <;> exact h) (fun c a w d v h => by cases d <;> exact h) (by rw [← HWD.out]; exact ⟨⟨wd, ST2.out.blkAt 0 rfl⟩, rfl⟩) ?_
  rw [← HWD.out]
  clear HWD
  refine wpVM_q (by simp only [List.getElem?_toArray, List.getElem?_cons_succ, List.getElem?_cons_zero] <;> rfl) (by rfl) (by rfl) ?_
  go_big_quiet_step (fail)
  refine wpQuiet_nil ?_
  refine wpVM_q (by simp only [List.getElem?_toArray, List.getElem?_cons_succ, List.getElem?_cons_zero] <;> rfl) (by rfl) (by rfl) ?_
  go_big_quiet_step (fail)
  refine wpQuiet_nil ?_
  refine wpVM_q (by simp only [List.getElem?_toArray, List.getElem?_cons_succ, List.getElem?_cons_zero] <;> rfl) (by rfl) (by rfl) ?_
  go_big_quiet_step (fail)
  refine wpQuiet_nil ?_
  refine wpVM_q (by simp only [List.getElem?_toArray, List.getElem?_cons_succ, List.getElem?_cons_zero] <;> rfl) (by rfl) (by rfl) ?_
  go_big_quiet_step (fail)
  refine wpQuiet_nil ?_
  refine wpVM_e (by simp only [List.getElem?_toArray, List.getElem?_cons_zero] <;> rfl) (by rfl) ?_
  go_wp2_with fail
  obtain ⟨wa4, hw_⟩ : ∃ x, x = wd.alloc (.cells #[] 3) := ⟨_, rfl⟩
  obtain ⟨e0, he_⟩ : ∃ b, b = wd.heap.size := ⟨_, rfl⟩
  rw [← hw_, ← he_]
  have ST3 := Lib.hid (show Sta W O (.pointer none) [] [⟨b0, m.rarr x, 77⟩] [⟨3, 1, .slice (some ⟨e0, 0, none⟩) 0 0, 0, []⟩] (prows m x []) wa4 from hw_ ▸ ST2.out.ownNew ((Fr.refl _ _).alloc _) (xs := []) (n := 0) (by rw [heap_alloc_if, if_pos he_]) (Nat.le_of_eq he_.symm) rfl (by decide))
  clear ST2 hw_ he_
  refine ⟨⟨⟨wa4, ST3.out.blkAt 0 rfl⟩, rfl⟩, ?_⟩
  refine wpVM_e (by simp only [List.getElem?_toArray, List.getElem?_cons_succ, List.getElem?_cons_zero] <;> rfl) (by rfl) ?_
  refine wpList_growI (by rfl) _ _ (by rfl) ST3.out 0 rfl (ST3.out.rowAt 0 rfl) (by rfl) (by rfl) (by have := HF.out.e; omega) ?_
  intro v3 wa5 hst
  refine wpList_nil ?_
  have ST4 := Lib.hid (show Sta W O (.pointer none) [] [⟨b0, m.rarr x, 77⟩] [⟨3, 1, v3, 0 + m.e.length, [] ++ ints m.e⟩] (prows m x []) wa5 from hst)
  clear hst ST3
  refine ⟨⟨⟨wa5, ST4.out.blkAt 0 rfl⟩, rfl⟩, ?_⟩
  simp only [Act.put, List.setIfInBounds_toArray, List.set_cons_succ, List.set_cons_zero]
  refine wpVM_e (by simp only [List.getElem?_toArray, List.getElem?_cons_succ, List.getElem?_cons_zero] <;> rfl) (by rfl) ?_
  refine wpList_growI (by rfl) _ _ (by rfl) ST4.out 0 rfl (ST4.out.rowAt 1 rfl) (by rfl) (by rfl) (by have := HF.out.e; have := HF.out.z; omega) ?_
  intro v6 wa6 hst
  refine wpList_nil ?_
  have ST5 := Lib.hid (show Sta W O (.pointer none) [] [⟨b0, m.rarr x, 77⟩] [⟨3, 1, v6, l.length, ints l⟩] (prows m x []) wa6 from by rw [HL.out, List.length_append]; unfold ints; rw [List.map_append]; simpa using hst)
  clear hst ST4
  refine ⟨⟨⟨wa6, ST5.out.blkAt 0 rfl⟩, rfl⟩, ?_⟩
  simp only [Act.put, List.setIfInBounds_toArray, List.set_cons_succ, List.set_cons_zero]
  refine wpVM_e (by simp only [List.getElem?_toArray, List.getElem?_cons_succ, List.getElem?_cons_zero] <;> rfl) (by rfl) ?_
  go_wp2_with fail
  refine (refSorted_new _ v6 l (srt l) _ (ST5.out.ownAt 0 rfl) (srt_perm l) (srt_up l) (by have := HF.out.e; have := HF.out.z; rw [HL.out, List.length_append]; omega)).mono ?_
  intro e wa7 hst
  have HEND := Lib.hid (show RowNew (peAll m) W e wa7 from by unfold peAll; rw [← HL.out]; exact ST5.out.new_row hst)
  obtain ⟨sa, sc, rfl, hst2⟩ := ST5.out.callNew hst
  have ST6 := Lib.hid (show Sta W O (.pointer none) [] [⟨b0, m.rarr x, 77⟩] [⟨3, 1, v6, l.length, ints l⟩] (⟨sa, (srt l).length, sc, ints (srt l)⟩ :: prows m x []) wa7 from hst2)
  clear hst hst2 ST5
  go_wp2_with fail
  refine ⟨⟨⟨wa7, ST6.out.blkAt 0 rfl⟩, rfl⟩, ?_⟩
  refine wpVM_e (by simp only [List.getElem?_toArray, List.getElem?_cons_succ, List.getElem?_cons_zero] <;> rfl) (by rfl) ?_
  go_wp2_with fail
  refine ⟨⟨⟨wa7, ST6.out.blkAt 0 rfl⟩, rfl⟩, ?_⟩
  refine wpVM_done ?_
  clear this q0 q1
  go_wp2_with fail
  go_ret
  exact HEND.out
end Go.Proofs.Ytelepohdfcjnfaa
